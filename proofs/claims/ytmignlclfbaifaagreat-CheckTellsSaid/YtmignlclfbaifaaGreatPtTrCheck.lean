/- What check.Check tells: the first thing that is wrong with a program, in which function, at which statement. Printed by wip/gen_trcheck.py. -/
import Derived.Test.YtmignlclfbaifaaGreatPtTrFun
import Derived.Test.YtmignlclfbaifaaGreatPtTrRt
import Derived.Test.YtmignlclfbaifaaGreatPtTrBase
namespace Go.Proofs.YtmignlclfbaifaaGreat
open Go.RowKit
theorem results_tc (W:World) (tmps:Array Value) (b:Nat) (e i n:Int) (h2:tmps.getD 2 undef=.int .i64 e) (h3:tmps.getD 3 undef=.pointer (some ⟨b,0,none⟩)) (hb:Blk W b 33 #[.int .i64 i,.int .i64 n]) :
  (results Tryz.f13 tmps).run Tryz.prog W=.ok (.tuple #[.int .i64 e,.agg #[.int .i64 i,.int .i64 n]]) W:=by
 have h:Tryz.f13.results=#[.tmp 2,.cell 3 33]:=by kernel_rfl
 have h2':tmps[2]?.getD undef=.int .i64 e:=by simpa using h2
 have h3':tmps[3]?.getD undef=.pointer (some ⟨b,0,none⟩):=by simpa using h3
 have hl:=run_loadVar_row W b 33 33 #[.int .i64 i,.int .i64 n] (0,0) _ hb Tryz.underlying33 rfl (by kernel_rfl)
 simp only [results,h]
 simp [Result.andThen,h2',h3',asAddr,hl]
structure FewP (D:Nat) (p:LProg):Prop where
 arrs:p.arrays.length≤400
 funs:p.funcs.length≤400
 params:∀f∈p.funcs,f.params.length≤400
 locs:∀f∈p.funcs,f.locals.length≤400
 stms:∀f∈p.funcs,(allL D f.body false).length≤4611686018427387904
section
set_option maxRecDepth 100000
set_option maxHeartbeats 4000000
theorem check_any (d:Nat) (p:LProg) (A1 A2:Option Addr) (c1 c2:Nat) (w:World) (ha:SlR w (· < w.heap.size) 2 RArr (.slice A1 p.arrays.length c1) p.arrays) (hf:SlR w (· < w.heap.size) 4 (RFunc (d+1) w (· < w.heap.size)) (.slice A2 p.funcs.length c2) p.funcs) (hfew:FewP (d+1) p) :
  Calls Tryz.prog 13 #[.agg #[.slice A1 p.arrays.length c1,.slice A2 p.funcs.length c2]] w fun r w'=>r=.returned (.tuple #[.int .i64 (checkE (d+1) p).1,.agg #[.int .i64 (checkE (d+1) p).2.1,.int .i64 (checkE (d+1) p).2.2]])∧Below w.heap.size w w':=by
 have hlen2:p.funcs.length≤400:=hfew.funs
 have HA:=Ω ha
 have HF:=Ω hf
 have HFEW:=Ω hfew
 clear ha hf hfew
 go_enter Tryz.func13,Tryz.ntmps13
 go_upto_region 1 with fail
 refine wp_world ?_
 intro W hW
 have hP:Blk W w.heap.size 27 #[.slice A1 p.arrays.length c1,.slice A2 p.funcs.length c2]:=by rw [←hW];exact (Blk.new _ _ _).alloc _
 have hR:Blk W (w.heap.size+1) 33 #[.int .i64 0,.int .i64 0]:=by rw [←hW];exact Blk.new_at _ _ _ (by simp)
 have hB:Below w.heap.size w W:=by rw [←hW];exact below2 _ _ _
 have p0:W.cell? ⟨w.heap.size,0,none⟩=some (.slice A1 p.arrays.length c1):=hP.cell 0
 have p1:W.cell? ⟨w.heap.size,1,none⟩=some (.slice A2 p.funcs.length c2):=hP.cell 1
 have q0:W.cell? ⟨w.heap.size+1,0,none⟩=some (.int .i64 0):=hR.cell 0
 have q1:W.cell? ⟨w.heap.size+1,1,none⟩=some (.int .i64 0):=hR.cell 1
 have hg1:w.heap.size<W.heap.size:=hP.lt
 have hg2:w.heap.size+1<W.heap.size:=hR.lt
 have HAX:Hid (∀X,Below W.heap.size W X→SlR X (· < X.heap.size) 2 RArr (.slice A1 p.arrays.length c1) p.arrays):=Ω (fun X hx=>by
  have hw:Below w.heap.size w X:=hB.trans (hx.mono hB.size)
  exact HA.out.imp (fun b h=>ltle h hw.size) (fun b h=>hw.block b h) fun _ _ _ r=>r)
 have HFX:Hid (∀X,Below W.heap.size W X→SlR X (· < X.heap.size) 4 (RFunc (d+1) X (· < X.heap.size)) (.slice A2 p.funcs.length c2) p.funcs):=Ω (fun X hx=>by
  have hw:Below w.heap.size w X:=hB.trans (hx.mono hB.size)
  exact HF.out.imp (fun b h=>ltle h hw.size) (fun b h=>hw.block b h) fun _ _ _ r=>r.imp (fun b h=>ltle h hw.size) (fun b h=>hw.block b h))
 obtain ⟨kk,hkk⟩:∃k,k=placeL p mainN:=⟨_,rfl⟩
 obtain ⟨br,hbr⟩:∃b,b=rightB (d+1) p:=⟨_,rfl⟩
 obtain ⟨bt,hbt⟩:∃b,b=twiceB (globalsL p):=⟨_,rfl⟩
 have HPL:Hid (∀X:World,(X=W→Calls Tryz.prog 15 #[.agg #[.slice A1 p.arrays.length c1,.slice A2 p.funcs.length c2],.string ⟨#[109,97,105,110]⟩] X fun e w'=>e=.returned (.int .i64 kk)∧Below X.heap.size X w')):=Ω (fun X hX=>by
  rw [hkk,hX]
  exact place_any (d+1) p A1 A2 p.arrays.length c1 c2 mainN W (HFX.out W (Below.refl _ _)))
 have HPL:=Ω (fun X:World=>HPL.out W rfl)
 have HRG:Hid (∀X,Below W.heap.size W X→Calls Tryz.prog 27 #[.agg #[.slice A1 p.arrays.length c1,.slice A2 p.funcs.length c2]] X fun e w'=>e=.returned (.bool br)∧Below X.heap.size X w'):=Ω (fun X hx=>by
  rw [hbr];exact right_any d p A1 A2 c1 c2 X (HAX.out X hx) (HFX.out X hx))
 have HGL:Hid (∀X,Below W.heap.size W X→Calls Tryz.prog 29 #[.agg #[.slice A1 p.arrays.length c1,.slice A2 p.funcs.length c2]] X fun e w'=>∃v,e=.returned v∧w'.ownsRow X.heap.size 9 1 v (globalsL p).length ((globalsL p).map encT)∧Below X.heap.size X w'):=Ω (fun X hx=>
  globals_any (d+1) p A1 A2 c1 c2 X (HAX.out X hx) (HFX.out X hx) HFEW.out.arrs HFEW.out.funs)
 have HTW:Hid (∀(X:World) (A3:Option Addr) (c3:Nat) {base:Nat},X.ownsRow base 9 1 (.slice A3 (globalsL p).length c3) (globalsL p).length ((globalsL p).map encT)→Calls Tryz.prog 28 #[.slice A3 (globalsL p).length c3] X fun e w'=>e=.returned (.bool bt)∧Below X.heap.size X w'):=Ω (fun X A3 c3 base hr=>by
  rw [hbt]
  exact twice_any A3 c3 (globalsL p) (by have h1:=HFEW.out.arrs;have h2:=HFEW.out.funs;unfold globalsL;simp;omega) X (strs_of_own hr fun g hg=>hr.inside g hg))
 have HCE:Hid (checkE (d+1) p=if !br then (1,0,0) else if bt then (50,0,0) else match p.funcs.find? (fun f=>decide (f.name=mainN)) with
  |none=>(54,0,0)
  |some f=>if 0<f.params.length then (54,0,0) else funcsE (d+1) p 0 p.funcs):=Ω (by rw [hbr,hbt];rfl)
 have HR:=Ω hR
 have HB:=Ω hB
 have HKK:=Ω hkk
 clear hW hP hR hB hkk hbr hbt
 cases br with
 |false=>
  have HRES:Hid (checkE (d+1) p=(1,0,0)):=Ω HCE.out
  go_wp2_with (first|(go_at_call 15;refine (HPL.out W).mono ?_;rintro e X1 ⟨rfl,hb1⟩;have HX1:=Ω hb1;have r0:=(hb1.cell (p:=⟨w.heap.size+1,0,none⟩) hg2).trans q0;have r1:=(hb1.cell (p:=⟨w.heap.size+1,1,none⟩) hg2).trans q1;have rf0:X1.frozen? ⟨w.heap.size+1,0,none⟩=false:=(HR.out.below hb1 HR.out.lt).frozen 0;have rf1:X1.frozen? ⟨w.heap.size+1,1,none⟩=false:=(HR.out.below hb1 HR.out.lt).frozen 1;have y0:=(hb1.cell (p:=⟨w.heap.size,0,none⟩) hg1).trans p0;have y1:=(hb1.cell (p:=⟨w.heap.size,1,none⟩) hg1).trans p1;clear hb1)|(go_at_call 27;refine (HRG.out X1 HX1.out).mono ?_;rintro e X2 ⟨rfl,hb2⟩;have HX2:=Ω (HX1.out.trans (hb2.mono HX1.out.size));have r02:=(hb2.cell (p:=⟨w.heap.size+1,0,none⟩) (ltle hg2 HX1.out.size)).trans r0;have r12:=(hb2.cell (p:=⟨w.heap.size+1,1,none⟩) (ltle hg2 HX1.out.size)).trans r1;have y02:=(hb2.cell (p:=⟨w.heap.size,0,none⟩) (ltle hg1 HX1.out.size)).trans y0;have y12:=(hb2.cell (p:=⟨w.heap.size,1,none⟩) (ltle hg1 HX1.out.size)).trans y1;have rf02:X2.frozen? ⟨w.heap.size+1,0,none⟩=false:=(HR.out.below HX2.out HR.out.lt).frozen 0;have rf12:X2.frozen? ⟨w.heap.size+1,1,none⟩=false:=(HR.out.below HX2.out HR.out.lt).frozen 1;clear hb2))
  refine bodyPost_ret (results_tc _ _ (w.heap.size+1) 1 0 0 rfl rfl (((HR.out.below HX2.out HR.out.lt).set_ 0 _).set_ 1 _)) rfl ?_
  exact ⟨by rw [HRES.out],((HB.out.trans (HX2.out.mono HB.out.size)).setCell (p:=⟨w.heap.size+1,0,none⟩) (Nat.le_succ _) _).setCell (p:=⟨w.heap.size+1,1,none⟩) (Nat.le_succ _) _⟩
 |true=>
 cases bt with
 |true=>
  have HRES:Hid (checkE (d+1) p=(50,0,0)):=Ω HCE.out
  go_wp2_with (first|(go_at_call 15;refine (HPL.out W).mono ?_;rintro e X1 ⟨rfl,hb1⟩;have HX1:=Ω hb1;have r0:=(hb1.cell (p:=⟨w.heap.size+1,0,none⟩) hg2).trans q0;have r1:=(hb1.cell (p:=⟨w.heap.size+1,1,none⟩) hg2).trans q1;have rf0:X1.frozen? ⟨w.heap.size+1,0,none⟩=false:=(HR.out.below hb1 HR.out.lt).frozen 0;have rf1:X1.frozen? ⟨w.heap.size+1,1,none⟩=false:=(HR.out.below hb1 HR.out.lt).frozen 1;have y0:=(hb1.cell (p:=⟨w.heap.size,0,none⟩) hg1).trans p0;have y1:=(hb1.cell (p:=⟨w.heap.size,1,none⟩) hg1).trans p1;clear hb1)|(go_at_call 27;refine (HRG.out X1 HX1.out).mono ?_;rintro e X2 ⟨rfl,hb2⟩;have HX2:=Ω (HX1.out.trans (hb2.mono HX1.out.size));have r02:=(hb2.cell (p:=⟨w.heap.size+1,0,none⟩) (ltle hg2 HX1.out.size)).trans r0;have r12:=(hb2.cell (p:=⟨w.heap.size+1,1,none⟩) (ltle hg2 HX1.out.size)).trans r1;have y02:=(hb2.cell (p:=⟨w.heap.size,0,none⟩) (ltle hg1 HX1.out.size)).trans y0;have y12:=(hb2.cell (p:=⟨w.heap.size,1,none⟩) (ltle hg1 HX1.out.size)).trans y1;have rf02:X2.frozen? ⟨w.heap.size+1,0,none⟩=false:=(HR.out.below HX2.out HR.out.lt).frozen 0;have rf12:X2.frozen? ⟨w.heap.size+1,1,none⟩=false:=(HR.out.below HX2.out HR.out.lt).frozen 1;clear hb2)|(go_at_call 29;refine (HGL.out X2 HX2.out).mono ?_;rintro e X3 ⟨v3,rfl,hr3,hb3⟩;have HX3:=Ω (HX2.out.trans (hb3.mono HX2.out.size));have r03:=(hb3.cell (p:=⟨w.heap.size+1,0,none⟩) (ltle hg2 HX2.out.size)).trans r02;have r13:=(hb3.cell (p:=⟨w.heap.size+1,1,none⟩) (ltle hg2 HX2.out.size)).trans r12;have y03:=(hb3.cell (p:=⟨w.heap.size,0,none⟩) (ltle hg1 HX2.out.size)).trans y02;have y13:=(hb3.cell (p:=⟨w.heap.size,1,none⟩) (ltle hg1 HX2.out.size)).trans y12;have rf03:X3.frozen? ⟨w.heap.size+1,0,none⟩=false:=(HR.out.below HX3.out HR.out.lt).frozen 0;have rf13:X3.frozen? ⟨w.heap.size+1,1,none⟩=false:=(HR.out.below HX3.out HR.out.lt).frozen 1;obtain ⟨A3,c3,rfl⟩:=own_form hr3;have HR3:=Ω hr3;clear hb3 hr3)|(go_at_call 28;refine (HTW.out X3 A3 c3 HR3.out).mono ?_;rintro e X4 ⟨rfl,hb4⟩;have HX4:=Ω (HX3.out.trans (hb4.mono HX3.out.size));have r04:=(hb4.cell (p:=⟨w.heap.size+1,0,none⟩) (ltle hg2 HX3.out.size)).trans r03;have r14:=(hb4.cell (p:=⟨w.heap.size+1,1,none⟩) (ltle hg2 HX3.out.size)).trans r13;have y04:=(hb4.cell (p:=⟨w.heap.size,0,none⟩) (ltle hg1 HX3.out.size)).trans y03;have y14:=(hb4.cell (p:=⟨w.heap.size,1,none⟩) (ltle hg1 HX3.out.size)).trans y13;have rf04:X4.frozen? ⟨w.heap.size+1,0,none⟩=false:=(HR.out.below HX4.out HR.out.lt).frozen 0;have rf14:X4.frozen? ⟨w.heap.size+1,1,none⟩=false:=(HR.out.below HX4.out HR.out.lt).frozen 1;clear hb4))
  refine bodyPost_ret (results_tc _ _ (w.heap.size+1) 50 0 0 rfl rfl (((HR.out.below HX4.out HR.out.lt).set_ 0 _).set_ 1 _)) rfl ?_
  exact ⟨by rw [HRES.out],((HB.out.trans (HX4.out.mono HB.out.size)).setCell (p:=⟨w.heap.size+1,0,none⟩) (Nat.le_succ _) _).setCell (p:=⟨w.heap.size+1,1,none⟩) (Nat.le_succ _) _⟩
 |false=>
 rcases find_place (fun f:LFunc=>decide (f.name=mainN)) p.funcs with ⟨h1,h2⟩|⟨m,hm,h1,h2⟩
 ·have HRES:Hid (checkE (d+1) p=(54,0,0)):=Ω (by rw [HCE.out,h2];rfl)
  have hk1:kk=-1:=HKK.out.trans h1
  subst hk1
  clear h1 h2
  go_wp2_with (first|(go_at_call 15;refine (HPL.out W).mono ?_;rintro e X1 ⟨rfl,hb1⟩;have HX1:=Ω hb1;have r0:=(hb1.cell (p:=⟨w.heap.size+1,0,none⟩) hg2).trans q0;have r1:=(hb1.cell (p:=⟨w.heap.size+1,1,none⟩) hg2).trans q1;have rf0:X1.frozen? ⟨w.heap.size+1,0,none⟩=false:=(HR.out.below hb1 HR.out.lt).frozen 0;have rf1:X1.frozen? ⟨w.heap.size+1,1,none⟩=false:=(HR.out.below hb1 HR.out.lt).frozen 1;have y0:=(hb1.cell (p:=⟨w.heap.size,0,none⟩) hg1).trans p0;have y1:=(hb1.cell (p:=⟨w.heap.size,1,none⟩) hg1).trans p1;clear hb1)|(go_at_call 27;refine (HRG.out X1 HX1.out).mono ?_;rintro e X2 ⟨rfl,hb2⟩;have HX2:=Ω (HX1.out.trans (hb2.mono HX1.out.size));have r02:=(hb2.cell (p:=⟨w.heap.size+1,0,none⟩) (ltle hg2 HX1.out.size)).trans r0;have r12:=(hb2.cell (p:=⟨w.heap.size+1,1,none⟩) (ltle hg2 HX1.out.size)).trans r1;have y02:=(hb2.cell (p:=⟨w.heap.size,0,none⟩) (ltle hg1 HX1.out.size)).trans y0;have y12:=(hb2.cell (p:=⟨w.heap.size,1,none⟩) (ltle hg1 HX1.out.size)).trans y1;have rf02:X2.frozen? ⟨w.heap.size+1,0,none⟩=false:=(HR.out.below HX2.out HR.out.lt).frozen 0;have rf12:X2.frozen? ⟨w.heap.size+1,1,none⟩=false:=(HR.out.below HX2.out HR.out.lt).frozen 1;clear hb2)|(go_at_call 29;refine (HGL.out X2 HX2.out).mono ?_;rintro e X3 ⟨v3,rfl,hr3,hb3⟩;have HX3:=Ω (HX2.out.trans (hb3.mono HX2.out.size));have r03:=(hb3.cell (p:=⟨w.heap.size+1,0,none⟩) (ltle hg2 HX2.out.size)).trans r02;have r13:=(hb3.cell (p:=⟨w.heap.size+1,1,none⟩) (ltle hg2 HX2.out.size)).trans r12;have y03:=(hb3.cell (p:=⟨w.heap.size,0,none⟩) (ltle hg1 HX2.out.size)).trans y02;have y13:=(hb3.cell (p:=⟨w.heap.size,1,none⟩) (ltle hg1 HX2.out.size)).trans y12;have rf03:X3.frozen? ⟨w.heap.size+1,0,none⟩=false:=(HR.out.below HX3.out HR.out.lt).frozen 0;have rf13:X3.frozen? ⟨w.heap.size+1,1,none⟩=false:=(HR.out.below HX3.out HR.out.lt).frozen 1;obtain ⟨A3,c3,rfl⟩:=own_form hr3;have HR3:=Ω hr3;clear hb3 hr3)|(go_at_call 28;refine (HTW.out X3 A3 c3 HR3.out).mono ?_;rintro e X4 ⟨rfl,hb4⟩;have HX4:=Ω (HX3.out.trans (hb4.mono HX3.out.size));have r04:=(hb4.cell (p:=⟨w.heap.size+1,0,none⟩) (ltle hg2 HX3.out.size)).trans r03;have r14:=(hb4.cell (p:=⟨w.heap.size+1,1,none⟩) (ltle hg2 HX3.out.size)).trans r13;have y04:=(hb4.cell (p:=⟨w.heap.size,0,none⟩) (ltle hg1 HX3.out.size)).trans y03;have y14:=(hb4.cell (p:=⟨w.heap.size,1,none⟩) (ltle hg1 HX3.out.size)).trans y13;have rf04:X4.frozen? ⟨w.heap.size+1,0,none⟩=false:=(HR.out.below HX4.out HR.out.lt).frozen 0;have rf14:X4.frozen? ⟨w.heap.size+1,1,none⟩=false:=(HR.out.below HX4.out HR.out.lt).frozen 1;clear hb4))
  refine bodyPost_ret (results_tc _ _ (w.heap.size+1) 54 0 0 rfl rfl (((HR.out.below HX4.out HR.out.lt).set_ 0 _).set_ 1 _)) rfl ?_
  exact ⟨by rw [HRES.out],((HB.out.trans (HX4.out.mono HB.out.size)).setCell (p:=⟨w.heap.size+1,0,none⟩) (Nat.le_succ _) _).setCell (p:=⟨w.heap.size+1,1,none⟩) (Nat.le_succ _) _⟩
 ·obtain ⟨b,off,c',hform,_,_,hbl,hel⟩:=HF.out.form (by omega)
  obtain ⟨cs,hcl,⟨vp,vl,vb,hcs,hsp,_,_⟩,hcell⟩:=hel m hm
  obtain ⟨rfl,rfl⟩:A2=some ⟨b,off,none⟩∧c2=c':=by injection hform with h1 _ h2;exact ⟨h1,h2⟩
  obtain ⟨Ap,cp,rfl,_,_⟩:=hsp.val
  subst hcs
  obtain ⟨np,hnp⟩:∃np,np=p.funcs[m].params.length:=⟨_,rfl⟩
  rw [←hnp] at hcell
  have HM:Hid (∀X,Below W.heap.size W X→X.cell? ⟨b,off+m*4+1,none⟩=some (.slice Ap np cp)):=Ω (fun X hx=>by
   have hw:Below w.heap.size w X:=HB.out.trans (hx.mono HB.out.size)
   have h:=(hcell.keep (hw.block b hbl)).at_ (j:=1) rfl
   simpa using h)
  have hk1:kk=(m:Int):=HKK.out.trans h1
  subst hk1
  have dk:decide ((m:Int)<0)=false:=dF (by omega)
  have HCE2:Hid (checkE (d+1) p=if 0<np then (54,0,0) else funcsE (d+1) p 0 p.funcs):=Ω (by rw [HCE.out,h2,hnp];rfl)
  clear h1 h2 hcell hel hform hsp hcl hnp hbl HCE
  rcases Nat.eq_zero_or_pos np with hz|hz
  case inr=>
   have d1:decide ((np:Int) > 0)=true:=dT (by omega)
   have d2:decide (0<(np:Int))=true:=dT (by omega)
   have HRES:Hid (checkE (d+1) p=(54,0,0)):=Ω (by rw [HCE2.out,if_pos hz])
   go_wp2_with (first|(go_at_call 15;refine (HPL.out W).mono ?_;rintro e X1 ⟨rfl,hb1⟩;have HX1:=Ω hb1;have r0:=(hb1.cell (p:=⟨w.heap.size+1,0,none⟩) hg2).trans q0;have r1:=(hb1.cell (p:=⟨w.heap.size+1,1,none⟩) hg2).trans q1;have rf0:X1.frozen? ⟨w.heap.size+1,0,none⟩=false:=(HR.out.below hb1 HR.out.lt).frozen 0;have rf1:X1.frozen? ⟨w.heap.size+1,1,none⟩=false:=(HR.out.below hb1 HR.out.lt).frozen 1;have y0:=(hb1.cell (p:=⟨w.heap.size,0,none⟩) hg1).trans p0;have y1:=(hb1.cell (p:=⟨w.heap.size,1,none⟩) hg1).trans p1;clear hb1)|(go_at_call 27;refine (HRG.out X1 HX1.out).mono ?_;rintro e X2 ⟨rfl,hb2⟩;have HX2:=Ω (HX1.out.trans (hb2.mono HX1.out.size));have r02:=(hb2.cell (p:=⟨w.heap.size+1,0,none⟩) (ltle hg2 HX1.out.size)).trans r0;have r12:=(hb2.cell (p:=⟨w.heap.size+1,1,none⟩) (ltle hg2 HX1.out.size)).trans r1;have y02:=(hb2.cell (p:=⟨w.heap.size,0,none⟩) (ltle hg1 HX1.out.size)).trans y0;have y12:=(hb2.cell (p:=⟨w.heap.size,1,none⟩) (ltle hg1 HX1.out.size)).trans y1;have rf02:X2.frozen? ⟨w.heap.size+1,0,none⟩=false:=(HR.out.below HX2.out HR.out.lt).frozen 0;have rf12:X2.frozen? ⟨w.heap.size+1,1,none⟩=false:=(HR.out.below HX2.out HR.out.lt).frozen 1;clear hb2)|(go_at_call 29;refine (HGL.out X2 HX2.out).mono ?_;rintro e X3 ⟨v3,rfl,hr3,hb3⟩;have HX3:=Ω (HX2.out.trans (hb3.mono HX2.out.size));have r03:=(hb3.cell (p:=⟨w.heap.size+1,0,none⟩) (ltle hg2 HX2.out.size)).trans r02;have r13:=(hb3.cell (p:=⟨w.heap.size+1,1,none⟩) (ltle hg2 HX2.out.size)).trans r12;have y03:=(hb3.cell (p:=⟨w.heap.size,0,none⟩) (ltle hg1 HX2.out.size)).trans y02;have y13:=(hb3.cell (p:=⟨w.heap.size,1,none⟩) (ltle hg1 HX2.out.size)).trans y12;have rf03:X3.frozen? ⟨w.heap.size+1,0,none⟩=false:=(HR.out.below HX3.out HR.out.lt).frozen 0;have rf13:X3.frozen? ⟨w.heap.size+1,1,none⟩=false:=(HR.out.below HX3.out HR.out.lt).frozen 1;obtain ⟨A3,c3,rfl⟩:=own_form hr3;have HR3:=Ω hr3;clear hb3 hr3)|(go_at_call 28;refine (HTW.out X3 A3 c3 HR3.out).mono ?_;rintro e X4 ⟨rfl,hb4⟩;have HX4:=Ω (HX3.out.trans (hb4.mono HX3.out.size));have r04:=(hb4.cell (p:=⟨w.heap.size+1,0,none⟩) (ltle hg2 HX3.out.size)).trans r03;have r14:=(hb4.cell (p:=⟨w.heap.size+1,1,none⟩) (ltle hg2 HX3.out.size)).trans r13;have y04:=(hb4.cell (p:=⟨w.heap.size,0,none⟩) (ltle hg1 HX3.out.size)).trans y03;have y14:=(hb4.cell (p:=⟨w.heap.size,1,none⟩) (ltle hg1 HX3.out.size)).trans y13;have rf04:X4.frozen? ⟨w.heap.size+1,0,none⟩=false:=(HR.out.below HX4.out HR.out.lt).frozen 0;have rf14:X4.frozen? ⟨w.heap.size+1,1,none⟩=false:=(HR.out.below HX4.out HR.out.lt).frozen 1;have m1:=HM.out X4 HX4.out;clear hb4))
   refine bodyPost_ret (results_tc _ _ (w.heap.size+1) 54 0 0 rfl rfl (((HR.out.below HX4.out HR.out.lt).set_ 0 _).set_ 1 _)) rfl ?_
   exact ⟨by rw [HRES.out],((HB.out.trans (HX4.out.mono HB.out.size)).setCell (p:=⟨w.heap.size+1,0,none⟩) (Nat.le_succ _) _).setCell (p:=⟨w.heap.size+1,1,none⟩) (Nat.le_succ _) _⟩
  subst hz
  have HCE3:Hid (checkE (d+1) p=funcsE (d+1) p 0 p.funcs):=Ω HCE2.out
  clear HCE2
  go_upto_region 8 with (first|(go_at_call 15;refine (HPL.out W).mono ?_;rintro e X1 ⟨rfl,hb1⟩;have HX1:=Ω hb1;have r0:=(hb1.cell (p:=⟨w.heap.size+1,0,none⟩) hg2).trans q0;have r1:=(hb1.cell (p:=⟨w.heap.size+1,1,none⟩) hg2).trans q1;have rf0:X1.frozen? ⟨w.heap.size+1,0,none⟩=false:=(HR.out.below hb1 HR.out.lt).frozen 0;have rf1:X1.frozen? ⟨w.heap.size+1,1,none⟩=false:=(HR.out.below hb1 HR.out.lt).frozen 1;have y0:=(hb1.cell (p:=⟨w.heap.size,0,none⟩) hg1).trans p0;have y1:=(hb1.cell (p:=⟨w.heap.size,1,none⟩) hg1).trans p1;clear hb1)|(go_at_call 27;refine (HRG.out X1 HX1.out).mono ?_;rintro e X2 ⟨rfl,hb2⟩;have HX2:=Ω (HX1.out.trans (hb2.mono HX1.out.size));have r02:=(hb2.cell (p:=⟨w.heap.size+1,0,none⟩) (ltle hg2 HX1.out.size)).trans r0;have r12:=(hb2.cell (p:=⟨w.heap.size+1,1,none⟩) (ltle hg2 HX1.out.size)).trans r1;have y02:=(hb2.cell (p:=⟨w.heap.size,0,none⟩) (ltle hg1 HX1.out.size)).trans y0;have y12:=(hb2.cell (p:=⟨w.heap.size,1,none⟩) (ltle hg1 HX1.out.size)).trans y1;have rf02:X2.frozen? ⟨w.heap.size+1,0,none⟩=false:=(HR.out.below HX2.out HR.out.lt).frozen 0;have rf12:X2.frozen? ⟨w.heap.size+1,1,none⟩=false:=(HR.out.below HX2.out HR.out.lt).frozen 1;clear hb2)|(go_at_call 29;refine (HGL.out X2 HX2.out).mono ?_;rintro e X3 ⟨v3,rfl,hr3,hb3⟩;have HX3:=Ω (HX2.out.trans (hb3.mono HX2.out.size));have r03:=(hb3.cell (p:=⟨w.heap.size+1,0,none⟩) (ltle hg2 HX2.out.size)).trans r02;have r13:=(hb3.cell (p:=⟨w.heap.size+1,1,none⟩) (ltle hg2 HX2.out.size)).trans r12;have y03:=(hb3.cell (p:=⟨w.heap.size,0,none⟩) (ltle hg1 HX2.out.size)).trans y02;have y13:=(hb3.cell (p:=⟨w.heap.size,1,none⟩) (ltle hg1 HX2.out.size)).trans y12;have rf03:X3.frozen? ⟨w.heap.size+1,0,none⟩=false:=(HR.out.below HX3.out HR.out.lt).frozen 0;have rf13:X3.frozen? ⟨w.heap.size+1,1,none⟩=false:=(HR.out.below HX3.out HR.out.lt).frozen 1;obtain ⟨A3,c3,rfl⟩:=own_form hr3;have HR3:=Ω hr3;clear hb3 hr3)|(go_at_call 28;refine (HTW.out X3 A3 c3 HR3.out).mono ?_;rintro e X4 ⟨rfl,hb4⟩;have HX4:=Ω (HX3.out.trans (hb4.mono HX3.out.size));have r04:=(hb4.cell (p:=⟨w.heap.size+1,0,none⟩) (ltle hg2 HX3.out.size)).trans r03;have r14:=(hb4.cell (p:=⟨w.heap.size+1,1,none⟩) (ltle hg2 HX3.out.size)).trans r13;have y04:=(hb4.cell (p:=⟨w.heap.size,0,none⟩) (ltle hg1 HX3.out.size)).trans y03;have y14:=(hb4.cell (p:=⟨w.heap.size,1,none⟩) (ltle hg1 HX3.out.size)).trans y13;have rf04:X4.frozen? ⟨w.heap.size+1,0,none⟩=false:=(HR.out.below HX4.out HR.out.lt).frozen 0;have rf14:X4.frozen? ⟨w.heap.size+1,1,none⟩=false:=(HR.out.below HX4.out HR.out.lt).frozen 1;have m1:=HM.out X4 HX4.out;clear hb4))
  have HZW:=HX4
  have hlen3:p.funcs.length≤400:=hlen2
  clear m1
  go_wp2
  go_loopw [5,6,7,8,38] (fun _ _ _ _ i wr=>∃k:Nat,k≤p.funcs.length∧i=.int .i64 k∧(∀j (h:j<p.funcs.length),j<k→(functionE (d+1) p p.funcs[j]).1=0)∧Below W.heap.size W wr) (fun _ _ _ _ i _=>p.funcs.length-(intOf i).toNat)
  case atStart=>exact ⟨0,by omega,rfl,fun j _ h=>by omega,HX4.out⟩
  case round=>
   obtain ⟨k,hk,rfl,hno,hb⟩:=hrel
   have HNO:=Ω hno
   have HBK:=Ω hb
   have u0:=(hb.cell (p:=⟨w.heap.size+1,0,none⟩) hg2).trans q0
   have u1:=(hb.cell (p:=⟨w.heap.size+1,1,none⟩) hg2).trans q1
   have uf0:wr.frozen? ⟨w.heap.size+1,0,none⟩=false:=(HR.out.below hb HR.out.lt).frozen 0
   have uf1:wr.frozen? ⟨w.heap.size+1,1,none⟩=false:=(HR.out.below hb HR.out.lt).frozen 1
   have x0:=(hb.cell (p:=⟨w.heap.size,0,none⟩) hg1).trans p0
   have x1:=(hb.cell (p:=⟨w.heap.size,1,none⟩) hg1).trans p1
   have hsz:W.heap.size≤wr.heap.size:=hb.size
   have hsz1:w.heap.size<wr.heap.size:=by omega
   clear hno hb
   by_cases hlt:k<p.funcs.length
   ·have d1:decide ((k:Int)<(p.funcs.length:Int))=true:=dT (by omega)
    have hbw:Below w.heap.size w wr:=HB.out.trans (HBK.out.mono HB.out.size)
    obtain ⟨b2,off2,c',hform,_,_,hbl,hel⟩:=HF.out.form (by omega)
    obtain ⟨cs,hcl,hcs,hcell⟩:=hel k hlt
    obtain ⟨rfl,rfl⟩:b=b2∧off=off2:=by injection hform with h1 _ _;injection h1 with h1;injection h1 with h1 h2;exact ⟨h1,h2⟩
    obtain ⟨x,hx⟩:∃x,x=p.funcs[k]:=⟨_,rfl⟩
    have hxm:x∈p.funcs:=by rw [hx];exact List.getElem_mem _
    rw [←hx] at hcs
    obtain ⟨vp,vl,vb,rfl,h1,h2,h3⟩:=hcs
    obtain ⟨Aq,cq,rfl,_,_⟩:=h1.val
    obtain ⟨Al,cl,rfl,_,_⟩:=h2.val
    obtain ⟨Ab,cb,rfl,_,_⟩:=h3.val
    have hcw:=hcell.keep (hbw.block b hbl)
    have i0:wr.cell? ⟨b,off+k*4,none⟩=some (.string x.name):=by have h:=hcw.at_ (j:=0) rfl;simpa using h
    have i1:wr.cell? ⟨b,off+k*4+1,none⟩=some (.slice Aq x.params.length cq):=by have h:=hcw.at_ (j:=1) rfl;simpa using h
    have i2:wr.cell? ⟨b,off+k*4+2,none⟩=some (.slice Al x.locals.length cl):=by have h:=hcw.at_ (j:=2) rfl;simpa using h
    have i3:wr.cell? ⟨b,off+k*4+3,none⟩=some (.slice Ab x.body.length cb):=by have h:=hcw.at_ (j:=3) rfl;simpa using h
    obtain ⟨e,he⟩:∃e,e=(functionE (d+1) p x).1:=⟨_,rfl⟩
    obtain ⟨n,hn⟩:∃n,n=(functionE (d+1) p x).2:=⟨_,rfl⟩
    have HFN:Hid (∀X,Below wr.heap.size wr X→Calls Tryz.prog 30 #[.agg #[.slice A1 p.arrays.length c1,.slice (some ⟨b,off,none⟩) p.funcs.length c2],.agg #[.string x.name,.slice Aq x.params.length cq,.slice Al x.locals.length cl,.slice Ab x.body.length cb]] X fun r w'=>r=.returned (.tuple #[.int .i64 e,.int .i64 n])∧Below X.heap.size X w'):=Ω (fun X hX=>by
     have hWX:Below W.heap.size W X:=HBK.out.trans (hX.mono HBK.out.size)
     have hwX:Below w.heap.size w X:=HB.out.trans (hWX.mono HB.out.size)
     rw [he,hn]
     exact function_any d p x A1 (some ⟨b,off,none⟩) Aq Al Ab c1 c2 cq cl cb X (HAX.out X hWX) (HFX.out X hWX) (h1.imp (fun b h=>ltle h hwX.size) (fun b h=>hwX.block b h) fun _ _ _ r=>r) (h2.imp (fun b h=>ltle h hwX.size) (fun b h=>hwX.block b h) fun _ _ _ r=>r)
      (h3.imp (fun b h=>ltle h hwX.size) (fun b h=>hwX.block b h) fun _ _ _ r=>RStmt.imp (fun b h=>ltle h hwX.size) (fun b h=>hwX.block b h) _ r) HFEW.out.arrs HFEW.out.funs (HFEW.out.params x hxm) (HFEW.out.locs x hxm) (HFEW.out.stms x hxm))
    have HX:=Ω hx
    have HE:=Ω he
    have HN:=Ω hn
    clear hcell hcw hel hform hx he hn h1 h2 h3 hbl hcl hbw hxm
    have BA:Hid (Below wr.heap.size wr (wr.alloc (.cells #[.string x.name,.slice Aq x.params.length cq,.slice Al x.locals.length cl,.slice Ab x.body.length cb] 49))):=Ω (below1 _ _)
    by_cases h0:e=0
    ·subst h0
     go_wp2_with (go_at_call 30;refine (HFN.out _ BA.out).mono ?_;rintro r w1 ⟨rfl,hb1⟩;have HB1:=Ω (HBK.out.trans ((BA.out.trans (hb1.mono BA.out.size)).mono HBK.out.size));clear hb1)
     go_roundw
     case rel=>
      refine ⟨k+1,by omega,by go_num,?_,HB1.out⟩
      intro j hj hjk
      by_cases e:j<k
      ·exact HNO.out j hj e
      ·obtain rfl:j=k:=by omega
       rw [←HX.out];exact HE.out.symm
     case measure=>simp [intOf];omega
    ·have q1':(e == 0)=false:=by rw [beq_dec];exact dF h0
     have q2':(e != 0)=true:=by rw [bne,q1'];rfl
     have HRES:Hid (checkE (d+1) p=(e,(k:Int),n)):=Ω (by
      rw [HCE3.out,funcsE_at (D:=d+1) (p:=p) (e:=e) (n:=n) 0 hlt HNO.out (by rw [←HX.out,HE.out,HN.out]) h0,Nat.zero_add])
     clear h0
     go_wp2_with (go_at_call 30;refine (HFN.out _ BA.out).mono ?_;rintro r w1 ⟨rfl,hb1⟩;have HB1:=Ω (HBK.out.trans ((BA.out.trans (hb1.mono BA.out.size)).mono HBK.out.size));have g0:=(HB1.out.cell (p:=⟨w.heap.size+1,0,none⟩) hg2).trans q0;have g1:=(HB1.out.cell (p:=⟨w.heap.size+1,1,none⟩) hg2).trans q1;have gf0:w1.frozen? ⟨w.heap.size+1,0,none⟩=false:=(HR.out.below HB1.out HR.out.lt).frozen 0;have gf1:w1.frozen? ⟨w.heap.size+1,1,none⟩=false:=(HR.out.below HB1.out HR.out.lt).frozen 1;clear hb1)
     refine bodyPost_ret (results_tc _ _ (w.heap.size+1) _ _ _ rfl rfl (((HR.out.below HB1.out HR.out.lt).set_ 0 _).set_ 1 _)) rfl ?_
     exact ⟨by rw [HRES.out],((HB.out.trans (HB1.out.mono HB.out.size)).setCell (p:=⟨w.heap.size+1,0,none⟩) (Nat.le_succ _) _).setCell (p:=⟨w.heap.size+1,1,none⟩) (Nat.le_succ _) _⟩
   ·obtain rfl:k=p.funcs.length:=by omega
    have HRES:Hid (checkE (d+1) p=(0,0,0)):=Ω (by
     rw [HCE3.out]
     exact funcsE_zero 0 fun f hf=>by
      obtain ⟨i,hi,rfl⟩:=List.getElem_of_mem hf
      exact HNO.out i hi hi)
    go_wp2
    refine bodyPost_ret (results_tc _ _ (w.heap.size+1) 0 0 0 rfl rfl (((HR.out.below HBK.out HR.out.lt).set_ 0 _).set_ 1 _)) rfl ?_
    exact ⟨by rw [HRES.out],((HB.out.trans (HBK.out.mono HB.out.size)).setCell (p:=⟨w.heap.size+1,0,none⟩) (Nat.le_succ _) _).setCell (p:=⟨w.heap.size+1,1,none⟩) (Nat.le_succ _) _⟩
end
end Go.Proofs.YtmignlclfbaifaaGreat
