/- The document's Check (counterproofref05): checkE. Printed by wip/gen_rfchk.py. -/
import Derived.Test.YtmignlclfbaifaaGreatPtRfC
import Derived.Test.YtmignlclfbaifaaGreatPtTrCheck
namespace Go.Proofs.YtmignlclfbaifaaGreat
open Go.RowKit Go.Sort Go.Shelf
theorem results_rc (W:World) (tmps:Array Value) (b:Nat) (e i n:Int) (h2:tmps.getD 2 undef=.int .i64 e) (h3:tmps.getD 3 undef=.pointer (some ⟨b,0,none⟩)) (hb:Blk W b 33 #[.int .i64 i,.int .i64 n]) :
  (results Tryz.f14 tmps).run Tryz.prog W=.ok (.tuple #[.int .i64 e,.agg #[.int .i64 i,.int .i64 n]]) W:=by
 have h:Tryz.f14.results=#[.tmp 2,.cell 3 33]:=by kernel_rfl
 have h2':tmps[2]?.getD undef=.int .i64 e:=by simpa using h2
 have h3':tmps[3]?.getD undef=.pointer (some ⟨b,0,none⟩):=by simpa using h3
 have hl:=run_loadVar_row W b 33 33 #[.int .i64 i,.int .i64 n] (0,0) _ hb Tryz.underlying33 rfl (by kernel_rfl)
 simp only [results,h]
 simp [Result.andThen,h2',h3',asAddr,hl]
theorem namesAt_one {W wr w1:World} {v:Value} {l:List ByteArray} {s:ByteArray} {n g cap:Nat} {xs:List Value} {o1:Obj} (h:NamesAt W wr v l) (hn:n=l.length) (hx:xs=l.map encT) (hown:w1.ownsRow W.heap.size 9 1 (.slice (some ⟨g,0,none⟩) (n+1) cap) (n+1) (xs++[.string s]))
  (hg:(wr.alloc o1).grownBy w1 v.ownBlock):NamesAt W w1 (.slice (some ⟨g,0,none⟩) (n+1) cap) (l++[s]):=by
 subst hn
 subst hx
 have hs:=h.below.size
 refine ⟨by simpa [encT] using hown,?_⟩
 refine (h.below.alloc hs o1).grown hg (by simp;omega) (fun k e=>?_)
 have:=h.row.lt k e
 omega
theorem news_strsR {X:World} {ok:Nat→Prop} {A:Option Addr} {n c:Nat} {l:List ByteArray} (h:SlR X ok 1 RStr (.slice A n c) l) (hn:n=l.length):(l.map Value.string).length=n*1∧(n=0∨∃ad,A=some ad∧∀j u,(l.map Value.string)[j]?=some u→X.cell? (ad.add j)=some u)∧∀u∈l.map Value.string,u.oneCell'=true:=by
 refine ⟨by simp [hn],?_,fun u hu=>?_⟩
 ·by_cases h0:0<l.length
  ·obtain ⟨b,o,c',hv,_,_,_,hel⟩:=h.form h0
   have hA:A=some ⟨b,o,none⟩:=by injection hv
   have hcl:Cells X b o (l.map Value.string):=fun j hj=>by
    have hj2:j<l.length:=by simpa using hj
    obtain ⟨cs,_,hcs,hcell⟩:=hel j hj2
    obtain rfl:cs=[.string l[j]]:=hcs
    have h2:=hcell.at_ (j:=0) rfl
    rw [List.getElem_map]
    simpa using h2
   exact .inr ⟨⟨b,o,none⟩,hA,hcl.news⟩
  ·exact .inl (by omega)
 ·obtain ⟨s,_,rfl⟩:=List.mem_map.1 hu;rfl
theorem cell_keepR {w w':World} {B:Nat} {a:Addr} {v:Value} (hb:Below B w w') (hB:B=w.heap.size) (h:w.cell? a=some v):w'.cell? a=some v:=by
 subst hB
 rw [hb.cell (World.block_lt_of_cell? w _ h)];exact h
theorem own_kept {base:Nat} {X Y:World} {v:Value} {n:Nat} {xs:List Value} (h:X.ownsRow base 9 1 v n xs) (hb:Below X.heap.size X Y):Y.ownsRow base 9 1 v n xs:=
 h.kept (grown_below' (row:=none) hb) (by
  cases e:v.ownBlock with
  |none=>exact .inl rfl
  |some q=>exact .inr (fun e2=>by cases e2))
section
set_option maxRecDepth 100000
set_option maxHeartbeats 8000000
theorem check_doc (d:Nat) (p:LProg) (A1 A2:Option Addr) (n1 n2 c1 c2:Nat) (hn1:n1=p.arrays.length) (hn2:n2=p.funcs.length) (w:World) (ha:SlR w (· < w.heap.size) 2 RArr (.slice A1 n1 c1) p.arrays) (hf:SlR w (· < w.heap.size) 4 (RFunc (d+1) w (· < w.heap.size)) (.slice A2 n2 c2) p.funcs) (hfew:FewP (d+1) p) :
  Calls Tryz.prog 14 #[.agg #[.slice A1 n1 c1,.slice A2 n2 c2]] w fun r w'=>r=.returned (.tuple #[.int .i64 (checkE (d+1) p).1,.agg #[.int .i64 (checkE (d+1) p).2.1,.int .i64 (checkE (d+1) p).2.2]])∧Below w.heap.size w w':=by
 obtain ⟨z0,hi0,hz0,hz1,hz2⟩:=info_parts info_string
 have hl1:n1≤400:=by rw [hn1];exact hfew.arrs
 have hl2:n2≤400:=by rw [hn2];exact hfew.funs
 have HA:=Ω ha
 have HFU:=Ω hf
 have HFEW:=Ω hfew
 have HN1:=Ω hn1
 have HN2:=Ω hn2
 have HRI:Hid (∀X,Below w.heap.size w X→Calls Tryz.prog 31 #[.agg #[.slice A1 n1 c1,.slice A2 n2 c2]] X fun r w'=>r=.returned (.bool (rightB (d+1) p))∧Below X.heap.size X w'):=Ω (fun X hX=>right_doc d p A1 A2 n1 n2 c1 c2 hn1 hn2 X (ha.imp (fun b hb=>ltle hb hX.size) (Keeps.of_below hX) fun _ _ _ r=>r) (hf.imp (fun b hb=>ltle hb hX.size) (Keeps.of_below hX) fun _ _ _ r=>r.imp (fun b hb=>ltle hb hX.size) (Keeps.of_below hX)))
 have HPLA:Hid (∀X,Below w.heap.size w X→Calls Tryz.prog 16 #[.agg #[.slice A1 n1 c1,.slice A2 n2 c2],.string ⟨#[109,97,105,110]⟩] X fun r w'=>r=.returned (.int .i64 (placeL p mainN))∧Below X.heap.size X w'):=Ω (fun X hX=>place_doc (d+1) p A1 A2 n1 n2 c1 c2 hn2 mainN X (hf.imp (fun b hb=>ltle hb hX.size) (Keeps.of_below hX) fun _ _ _ r=>r.imp (fun b hb=>ltle hb hX.size) (Keeps.of_below hX)))
 obtain ⟨br,hbr⟩:∃b,b=rightB (d+1) p:=⟨_,rfl⟩
 obtain ⟨bt,hbt⟩:∃b,b=twiceB (globalsL p):=⟨_,rfl⟩
 have HCE:Hid (checkE (d+1) p=if !br then (1,0,0) else if bt then (50,0,0) else match p.funcs.find? (fun f=>decide (f.name=mainN)) with
  |none=>(54,0,0)
  |some f=>if 0<f.params.length then (54,0,0) else funcsE (d+1) p 0 p.funcs):=Ω (by rw [hbr,hbt];rfl)
 rw [←hbr] at HRI
 have HBT:=Ω hbt
 clear ha hf hfew hn1 hn2 hbr hbt
 go_enter Tryz.func14,Tryz.ntmps14
 go_upto_region 1 with fail
 refine wp_world ?_
 intro W hW
 have hP:Blk W w.heap.size 27 #[.slice A1 n1 c1,.slice A2 n2 c2]:=by rw [←hW];exact (Blk.new _ _ _).alloc _
 have hR:Blk W (w.heap.size+1) 33 #[.int .i64 0,.int .i64 0]:=by rw [←hW];exact Blk.new_at _ _ _ (by simp)
 have hB:Below w.heap.size w W:=by rw [←hW];exact below2 _ _ _
 have HB:=Ω hB
 have HRB:=Ω hR
 have HF:Hid (∀X,Below W.heap.size W X→Below w.heap.size w X):=Ω (fun X hX=>hB.trans (hX.mono hB.size))
 have HCL:Hid (∀X,Below W.heap.size W X→X.cell? ⟨w.heap.size,0,none⟩=some (.slice A1 n1 c1)∧X.cell? ⟨w.heap.size,1,none⟩=some (.slice A2 n2 c2)):=Ω (fun X hX=>
  have q:=hP.below hX hP.lt
  ⟨q.cell 0,q.cell 1⟩)
 have HIN:Hid (∀X,Below W.heap.size W X→SlR X (· < X.heap.size) 2 RArr (.slice A1 n1 c1) p.arrays∧SlR X (· < X.heap.size) 4 (RFunc (d+1) X (· < X.heap.size)) (.slice A2 n2 c2) p.funcs):=Ω (fun X h=>have hX:=HF.out X h
  ⟨HA.out.imp (fun b hb=>ltle hb hX.size) (Keeps.of_below hX) fun _ _ _ r=>r,HFU.out.imp (fun b hb=>ltle hb hX.size) (Keeps.of_below hX) fun _ _ _ r=>r.imp (fun b hb=>ltle hb hX.size) (Keeps.of_below hX)⟩)
 obtain ⟨p0,p1⟩:=HCL.out W (Below.refl _ _)
 clear hW hP hR hB
 go_upto_region 2 with (go_at_call 31;refine (HRI.out W HB.out).mono ?_;rintro r V ⟨rfl,hb1⟩)
 have hV:Below W.heap.size W V:=hb1
 have HV:=Ω hV
 obtain ⟨p0',p1'⟩:=HCL.out V hV
 have r0:=(HRB.out.below HV.out HRB.out.lt).cell 0;have r1:=(HRB.out.below HV.out HRB.out.lt).cell 1;have rf0:=(HRB.out.below HV.out HRB.out.lt).frozen 0;have rf1:=(HRB.out.below HV.out HRB.out.lt).frozen 1
 clear hb1 p0 p1 hV
 cases br with
 |false=>
  have HRES:Hid (checkE (d+1) p=(1,0,0)):=Ω HCE.out
  go_wp2
  refine bodyPost_ret (results_rc _ _ (w.heap.size+1) 1 0 0 rfl rfl (((HRB.out.below HV.out HRB.out.lt).set_ 0 _).set_ 1 _)) rfl ?_
  exact ⟨by rw [HRES.out],((HB.out.trans (HV.out.mono HB.out.size)).setCell (p:=⟨w.heap.size+1,0,none⟩) (Nat.le_succ _) _).setCell (p:=⟨w.heap.size+1,1,none⟩) (Nat.le_succ _) _⟩
 |true=>
 have HCE2:Hid (checkE (d+1) p=if bt then (50,0,0) else match p.funcs.find? (fun f=>decide (f.name=mainN)) with
  |none=>(54,0,0)
  |some f=>if 0<f.params.length then (54,0,0) else funcsE (d+1) p 0 p.funcs):=Ω HCE.out
 clear HCE r0 r1 rf0 rf1
 go_wp2
 clear p0' p1'
 go_loopw [5,6] (fun v i wr=>∃k:Nat,k≤n1∧i=.int .i64 k∧NamesAt W wr v ((p.arrays.map (·.1)).take k)) (fun _ i _=>n1-(RowKit.intOf i).toNat)
 case atStart=>exact ⟨0,by omega,rfl,World.ownsRow_nil _ _ _ _,HV.out⟩
 case round=>
  obtain ⟨k,hk,rfl,hna⟩:=hrel
  obtain ⟨Av,cv,hv⟩:=own_form hna.row
  have htl:=take_map_len (·.1) p.arrays k (by rw [←HN1.out];exact hk)
  rw [htl] at hv
  subst hv
  have hbr:=hna.below
  have hsz:=hbr.size
  obtain ⟨p0,p1⟩:=HCL.out wr hbr
  by_cases hlt:k<n1
  ·have d1:decide ((k:Int)<(n1:Int))=true:=dT (by omega)
   have hk1:(k:Int)<(n1:Int):=by omega
   have hk2:¬(k:Int)<0:=by omega
   have hlp:k<p.arrays.length:=by rw [←HN1.out];exact hlt
   obtain ⟨b3,o3,hA,hb3,hcl⟩:=arr_at HA.out hlp
   obtain ⟨x,hx⟩:∃x,x=p.arrays[k]:=⟨_,rfl⟩
   rw [←hx] at hcl
   subst hA
   obtain ⟨nm,sz⟩:=x
   obtain ⟨i0,i1⟩:=hcl wr ((hbr.block b3 (ltle hb3 HB.out.size)).trans (HB.out.block b3 hb3))
   have hts:=take_map_succ (·.1) p.arrays k hlp
   rw [←hx] at hts
   have HTS:=Ω hts
   have hown:wr.ownsRow W.heap.size 9 1 (.slice Av k cv) k (((p.arrays.map (·.1)).take k).map encT):=by have h:=hna.row;rw [htl] at h;exact h
   have HNA:=Ω hna
   have HTL:=Ω htl
   clear hcl hx hts htl hna hb3 hbr
   generalize hxs:((p.arrays.map (·.1)).take k).map encT=xs at *
   have HXS:=Ω hxs
   clear hxs
   go_wp2_with (at_builtin;refine wpList_append_lies _ rfl (.tmp 27) (.tmp 34) _ rfl W.heap.size 9 z0 _ 1 16 Tryz.underlying47 hi0 hz0 hz1 hz2 rfl (by decide) _ _ _ rfl (hown.alloc _) ⟨wr.heap.size,0,none⟩ 1 1 [.string nm] rfl rfl (World.news_of_block (cs:=#[.string nm]) (t:=9) (fr:=(0,0)) (Blk.new _ _ _)) (by simp [Value.oneCell']) (by decide) (by unfold maxLen;omega) (by omega) (by simp;omega) (wr.heap.size+1) (by simp) ?_;intro g cap w1 hown1 hgrow hat hlt1)
   go_roundw
   case rel=>
    refine ⟨k+1,by omega,by go_num,?_⟩
    rw [HTS.out]
    exact namesAt_one HNA.out HTL.out.symm HXS.out.symm hown1 hgrow
   case measure=>simp [RowKit.intOf];omega
  ·have hkn:k=n1:=by omega
   have d1:decide ((k:Int)<(n1:Int))=false:=dF (by omega)
   have htk:(p.arrays.map (·.1)).take k=p.arrays.map (·.1):=List.take_of_length_le (by rw [List.length_map,←HN1.out];omega)
   rw [htk] at hna
   have HNA:=Ω hna
   have HKN:=Ω hkn
   clear htk hna hbr hsz htl hkn
   obtain ⟨wo,hwo⟩:∃wo,wo=wr:=⟨_,rfl⟩
   subst hwo
   go_wp2
   clear p0 p1 hlt d1
   go_loopw [5,7] (fun v i wr=>∃k:Nat,k≤n2∧i=.int .i64 k∧NamesAt W wr v (p.arrays.map (·.1)++(p.funcs.map (·.name)).take k)) (fun _ i _=>n2-(RowKit.intOf i).toNat)
   case atStart=>
    refine ⟨0,by omega,rfl,?_⟩
    rw [List.take_zero,List.append_nil]
    exact HNA.out
   case round=>
    clear HNA HKN hk
    obtain ⟨k2,hk2,rfl,hna⟩:=hrel
    obtain ⟨Av2,cv2,hv⟩:=own_form hna.row
    have htl:(p.arrays.map (·.1)++(p.funcs.map (·.name)).take k2).length=n1+k2:=by rw [List.length_append,take_map_len (·.name) p.funcs k2 (by rw [←HN2.out];exact hk2),List.length_map,HN1.out]
    rw [htl] at hv
    subst hv
    have hbr:=hna.below
    have hsz:=hbr.size
    obtain ⟨p0,p1⟩:=HCL.out wr hbr
    by_cases hlt:k2<n2
    ·have d1:decide ((k2:Int)<(n2:Int))=true:=dT (by omega)
     have hk3:(k2:Int)<(n2:Int):=by omega
     have hk4:¬(k2:Int)<0:=by omega
     have hlp:k2<p.funcs.length:=by rw [←HN2.out];exact hlt
     obtain ⟨b3,o3,Ap,Al,Ab,np,nl,nb,cp,cl,cb,hA,hb3,hnp,hnl,hnb,hrp,hrl,hrb,hcl⟩:=func_at HFU.out hlp
     obtain ⟨x,hx⟩:∃x,x=p.funcs[k2]:=⟨_,rfl⟩
     obtain ⟨nm,hnm⟩:∃s,s=x.name:=⟨_,rfl⟩
     rw [←hx,←hnm] at hcl
     subst hA
     have i0:=(hcl wr ((hbr.block b3 (ltle hb3 HB.out.size)).trans (HB.out.block b3 hb3))).1
     have hts:=take_map_succ (·.name) p.funcs k2 hlp
     rw [←hx,←hnm] at hts
     have HTS:=Ω hts
     have hown:wr.ownsRow W.heap.size 9 1 (.slice Av2 (n1+k2) cv2) (n1+k2) ((p.arrays.map (·.1)++(p.funcs.map (·.name)).take k2).map encT):=by have h:=hna.row;rw [htl] at h;exact h
     have HNA2:=Ω hna
     have HTL:=Ω htl
     clear hcl hx hts htl hna hb3 hbr hnp hnl hnb hrp hrl hrb hnm
     generalize hxs:(p.arrays.map (·.1)++(p.funcs.map (·.name)).take k2).map encT=xs at *
     have HXS:=Ω hxs
     clear hxs
     go_wp2_with (at_builtin;refine wpList_append_lies _ rfl (.tmp 43) (.tmp 50) _ rfl W.heap.size 9 z0 _ 1 16 Tryz.underlying47 hi0 hz0 hz1 hz2 rfl (by decide) _ _ _ rfl (hown.alloc _) ⟨wr.heap.size,0,none⟩ 1 1 [.string nm] rfl rfl (World.news_of_block (cs:=#[.string nm]) (t:=9) (fr:=(0,0)) (Blk.new _ _ _)) (by simp [Value.oneCell']) (by decide) (by unfold maxLen;omega) (by omega) (by simp;omega) (wr.heap.size+1) (by simp) ?_;intro g cap w1 hown1 hgrow hat hlt1)
     go_roundw
     case rel=>
      refine ⟨k2+1,by omega,by go_num,?_⟩
      rw [HTS.out,←List.append_assoc]
      exact namesAt_one HNA2.out HTL.out.symm HXS.out.symm hown1 hgrow
     case measure=>simp [RowKit.intOf];omega
    ·have hkn:k2=n2:=by omega
     have d1:decide ((k2:Int)<(n2:Int))=false:=dF (by omega)
     have htk:(p.funcs.map (·.name)).take k2=p.funcs.map (·.name):=List.take_of_length_le (by rw [List.length_map,←HN2.out];omega)
     rw [htk] at hna
     obtain ⟨ng,hng⟩:∃n,n=n1+k2:=⟨_,rfl⟩
     rw [←hng]
     have hgl:ng=(globalsL p).length:=by unfold globalsL;rw [hng,hkn,List.length_append,List.length_map,List.length_map,HN1.out,HN2.out]
     have hrow:wr.ownsRow W.heap.size 9 1 (.slice Av2 ng cv2) ng ((globalsL p).map encT):=by
      have h:=hna.row
      rw [htk,←hng] at htl
      rw [htl,←hng] at h
      exact h
     have HGO:Hid (∀X,Below wr.heap.size wr X→X.ownsRow W.heap.size 9 1 (.slice Av2 ng cv2) ng ((globalsL p).map encT)):=Ω (fun X hX=>own_kept hrow hX)
     have HGS:Hid (∀X,Below wr.heap.size wr X→SlR X (· < X.heap.size) 1 RStr (.slice Av2 ng cv2) (globalsL p)):=Ω (fun X hX=>strs_of_own (HGO.out X hX) (fun g hg=>((HGO.out X hX).lt g hg).2))
     have HGL:=Ω hgl
     have HBO:=Ω hbr
     have HTWG:Hid (∀X,Below wr.heap.size wr X→Calls Tryz.prog 32 #[.slice Av2 ng cv2] X fun r w'=>r=.returned (.bool bt)∧Below X.heap.size X w'):=Ω (fun X hX=>by rw [HBT.out];exact twice_doc Av2 ng cv2 (globalsL p) HGL.out X (HGS.out X hX))
     obtain ⟨V2,hV2⟩:∃v,v=wr:=⟨_,rfl⟩
     subst hV2
     clear htk hna hbr hsz htl hkn hgl hrow hng
     go_upto_if 53 with (go_at_call 32;refine (HTWG.out V2 (Below.refl _ _)).mono ?_;rintro r V3 ⟨rfl,hb3⟩;have HV3:=Ω (HBO.out.trans (hb3.mono HBO.out.size));have HV23:=Ω hb3;clear hb3)
     clear p0 p1
     obtain ⟨p0,p1⟩:=HCL.out V3 HV3.out
     have r0:=(HRB.out.below HV3.out HRB.out.lt).cell 0;have r1:=(HRB.out.below HV3.out HRB.out.lt).cell 1;have rf0:=(HRB.out.below HV3.out HRB.out.lt).frozen 0;have rf1:=(HRB.out.below HV3.out HRB.out.lt).frozen 1
     cases bt with
     |true=>
      have HRES:Hid (checkE (d+1) p=(50,0,0)):=Ω HCE2.out
      go_wp2
      refine bodyPost_ret (results_rc _ _ (w.heap.size+1) 50 0 0 rfl rfl (((HRB.out.below HV3.out HRB.out.lt).set_ 0 _).set_ 1 _)) rfl ?_
      exact ⟨by rw [HRES.out],((HB.out.trans (HV3.out.mono HB.out.size)).setCell (p:=⟨w.heap.size+1,0,none⟩) (Nat.le_succ _) _).setCell (p:=⟨w.heap.size+1,1,none⟩) (Nat.le_succ _) _⟩
     |false=>
     have HCE3:Hid (checkE (d+1) p=match p.funcs.find? (fun f=>decide (f.name=mainN)) with
      |none=>(54,0,0)
      |some f=>if 0<f.params.length then (54,0,0) else funcsE (d+1) p 0 p.funcs):=Ω HCE2.out
     clear HCE2 r0 r1 rf0 rf1
     obtain ⟨kk,hkk⟩:∃k,k=placeL p mainN:=⟨_,rfl⟩
     rw [←hkk] at HPLA
     have HKK:=Ω hkk
     clear hkk
     go_upto_region 16 with (go_at_call 16;refine (HPLA.out V3 (HF.out _ HV3.out)).mono ?_;rintro r V4 ⟨rfl,hb4⟩;have HV4:=Ω (HV3.out.trans (hb4.mono HV3.out.size));have HV24:=Ω (HV23.out.trans (hb4.mono HV23.out.size));clear hb4)
     clear p0 p1
     obtain ⟨p0,p1⟩:=HCL.out V4 HV4.out
     have r0:=(HRB.out.below HV4.out HRB.out.lt).cell 0;have r1:=(HRB.out.below HV4.out HRB.out.lt).cell 1;have rf0:=(HRB.out.below HV4.out HRB.out.lt).frozen 0;have rf1:=(HRB.out.below HV4.out HRB.out.lt).frozen 1
     rcases find_place (fun f:LFunc=>decide (f.name=mainN)) p.funcs with ⟨h1,h2⟩|⟨m,hm,h1,h2⟩
     ·have HRES:Hid (checkE (d+1) p=(54,0,0)):=Ω (by rw [HCE3.out,h2])
      have hk1:kk=-1:=HKK.out.trans h1
      subst hk1
      clear h1 h2
      go_wp2
      refine bodyPost_ret (results_rc _ _ (w.heap.size+1) 54 0 0 rfl rfl (((HRB.out.below HV4.out HRB.out.lt).set_ 0 _).set_ 1 _)) rfl ?_
      exact ⟨by rw [HRES.out],((HB.out.trans (HV4.out.mono HB.out.size)).setCell (p:=⟨w.heap.size+1,0,none⟩) (Nat.le_succ _) _).setCell (p:=⟨w.heap.size+1,1,none⟩) (Nat.le_succ _) _⟩
     obtain ⟨b,off,Ap,Al,Ab,np,nl,nb,cp,cl,cb,hA,hbl,hnp,hnl,hnb,hrp,hrl,hrb,hcl⟩:=func_at HFU.out hm
     have hlpm:=hrp.len_le
     unfold maxLen at hlpm
     rw [←hnp] at hlpm
     subst hA
     have i1:=(hcl V4 ((HF.out _ HV4.out).block b hbl)).2.1
     have hk1:kk=(m:Int):=HKK.out.trans h1
     subst hk1
     have dk:decide ((m:Int)<0)=false:=dF (by omega)
     have hm1:(m:Int)<(n2:Int):=by have:=HN2.out;omega
     have hm0:¬(m:Int)<0:=by omega
     have HCE4:Hid (checkE (d+1) p=if 0<np then (54,0,0) else funcsE (d+1) p 0 p.funcs):=Ω (by rw [HCE3.out,h2,hnp])
     clear h1 h2 hcl hbl hnp hnl hnb hrp hrl hrb hm HCE3
     rcases Nat.eq_zero_or_pos np with hz|hz
     case inr=>
      have d1:decide ((np:Int) > 0)=true:=dT (by omega)
      have d2:decide (0<(np:Int))=true:=dT (by omega)
      have HRES:Hid (checkE (d+1) p=(54,0,0)):=Ω (by rw [HCE4.out,if_pos hz])
      go_wp2
      refine bodyPost_ret (results_rc _ _ (w.heap.size+1) 54 0 0 rfl rfl (((HRB.out.below HV4.out HRB.out.lt).set_ 0 _).set_ 1 _)) rfl ?_
      exact ⟨by rw [HRES.out],((HB.out.trans (HV4.out.mono HB.out.size)).setCell (p:=⟨w.heap.size+1,0,none⟩) (Nat.le_succ _) _).setCell (p:=⟨w.heap.size+1,1,none⟩) (Nat.le_succ _) _⟩
     case inl=>
     have HCE5:Hid (checkE (d+1) p=funcsE (d+1) p 0 p.funcs):=Ω (by rw [HCE4.out,if_neg (by omega)])
     subst hz
     clear HCE4 r0 r1 rf0 rf1
     go_wp2
     clear p0 p1 i1 dk hm1 hm0 hlpm
     go_loopw [9] (fun i wr=>∃k:Nat,k≤n2∧i=.int .i64 k∧(∀j (h:j<p.funcs.length),j<k→(functionE (d+1) p p.funcs[j]).1=0)∧Below W.heap.size W wr∧Below V2.heap.size V2 wr) (fun i _=>n2-(intOf i).toNat)
     case atStart=>exact ⟨0,by omega,rfl,fun j _ h=>by omega,HV4.out,HV24.out⟩
     case round=>
      obtain ⟨k,hk,rfl,hno,hbr,hb2⟩:=hrel
      obtain ⟨wo,hwo⟩:∃wo,wo=wr:=⟨_,rfl⟩
      subst hwo
      have HNO:=Ω hno;have HBK:=Ω hbr;have HBK2:=Ω hb2
      obtain ⟨p0,p1⟩:=HCL.out wo hbr
      clear hno hbr hb2
      by_cases hlt:k<n2
      case neg=>
       have hkn:k=n2:=by omega
       have d1:decide ((k:Int)<(n2:Int))=false:=dF (by omega)
       have HRES:Hid (checkE (d+1) p=(0,0,0)):=Ω (by rw [HCE5.out];exact funcsE_zero 0 fun f hf=>by obtain ⟨i,hi,rfl⟩:=List.getElem_of_mem hf;exact HNO.out i hi (by rw [hkn,HN2.out];exact hi))
       clear hkn
       have r0:=(HRB.out.below HBK.out HRB.out.lt).cell 0;have r1:=(HRB.out.below HBK.out HRB.out.lt).cell 1;have rf0:=(HRB.out.below HBK.out HRB.out.lt).frozen 0;have rf1:=(HRB.out.below HBK.out HRB.out.lt).frozen 1
       go_wp2
       refine bodyPost_ret (results_rc _ _ (w.heap.size+1) 0 0 0 rfl rfl (((HRB.out.below HBK.out HRB.out.lt).set_ 0 _).set_ 1 _)) rfl ?_
       exact ⟨by rw [HRES.out],((HB.out.trans (HBK.out.mono HB.out.size)).setCell (p:=⟨w.heap.size+1,0,none⟩) (Nat.le_succ _) _).setCell (p:=⟨w.heap.size+1,1,none⟩) (Nat.le_succ _) _⟩
      case pos=>
      have d1:decide ((k:Int)<(n2:Int))=true:=dT (by omega)
      have hk1:(k:Int)<(n2:Int):=by omega
      have hk0:¬(k:Int)<0:=by omega
      have hkl:k<p.funcs.length:=by rw [←HN2.out];exact hlt
      obtain ⟨b',off',Ap,Al,Ab,np,nl,nb,cp,cl,cb,hA,hbl,hnp,hnl,hnb,hrp,hrl,hrb,hcl⟩:=func_at HFU.out hkl
      obtain ⟨rfl,rfl⟩:b=b'∧off=off':=by injection hA with hA;injection hA with e1 e2;exact ⟨e1,e2⟩
      obtain ⟨x,hx⟩:∃x,x=p.funcs[k]'hkl:=⟨_,rfl⟩
      have hxm:x∈p.funcs:=by rw [hx];exact List.getElem_mem _
      rw [←hx] at hnp hnl hnb hrp hrl hrb hcl
      have hlp:np≤400:=by rw [hnp];exact HFEW.out.params x hxm
      have hll:nl≤400:=by rw [hnl];exact HFEW.out.locs x hxm
      have HCX:Hid (∀X,Below W.heap.size W X→X.cell? ⟨b,off+k*4+1,none⟩=some (.slice Ap np cp)∧X.cell? ⟨b,off+k*4+2,none⟩=some (.slice Al nl cl)∧X.cell? ⟨b,off+k*4+3,none⟩=some (.slice Ab nb cb)):=Ω (fun X hX=>have q:=hcl X ((HF.out _ hX).block b hbl);⟨q.2.1,q.2.2.1,q.2.2.2⟩)
      have SO:Hid (∀X,Below W.heap.size W X→(fun X=>X.cell? ⟨w.heap.size,1,none⟩=some (.slice (some ⟨b,off,none⟩) n2 c2)∧X.cell? ⟨b,off+k*4+1,none⟩=some (.slice Ap np cp)∧X.cell? ⟨b,off+k*4+2,none⟩=some (.slice Al nl cl)∧X.cell? ⟨b,off+k*4+3,none⟩=some (.slice Ab nb cb)) X):=Ω (fun X hX=>⟨(HCL.out X hX).2,HCX.out X hX⟩)
      have HX:=Ω hx;have HXM:=Ω hxm;have HNP:=Ω hnp;have HNL:=Ω hnl;have HNB:=Ω hnb;have HKL:=Ω hkl
      have HPS:Hid (∀X,Below W.heap.size W X→SlR X (· < X.heap.size) 1 RStr (.slice Ap np cp) x.params∧SlR X (· < X.heap.size) 1 RStr (.slice Al nl cl) x.locals∧SlR X (· < X.heap.size) 5 (RStmt (d+1) X (· < X.heap.size)) (.slice Ab nb cb) x.body):=Ω (fun X h=>have hX:=HF.out X h
       ⟨hrp.imp (fun b hb=>ltle hb hX.size) (Keeps.of_below hX) fun _ _ _ r=>r,hrl.imp (fun b hb=>ltle hb hX.size) (Keeps.of_below hX) fun _ _ _ r=>r,hrb.imp (fun b hb=>ltle hb hX.size) (Keeps.of_below hX) fun _ _ _ r=>r.imp (fun b hb=>ltle hb hX.size) (Keeps.of_below hX)⟩)
      clear hA hbl hnp hnl hnb hrp hrl hrb hcl hx hxm
      go_upto_region 21 with fail
      clear p0 p1
      refine wp_region_G 14 (fun X=>X.cell? ⟨w.heap.size,1,none⟩=some (.slice (some ⟨b,off,none⟩) n2 c2)∧X.cell? ⟨b,off+k*4+1,none⟩=some (.slice Ap np cp)∧X.cell? ⟨b,off+k*4+2,none⟩=some (.slice Al nl cl)∧X.cell? ⟨b,off+k*4+3,none⟩=some (.slice Ab nb cb)) (SO.out _ HBK.out.drew) ?_
      change GL _ _ _ _ _ 14 15 (Array.replicate 15 false) _ _
      have HX0:Hid (Below W.heap.size W wo.drew):=Ω HBK.out.drew
      have HY0:Hid (Below V2.heap.size V2 wo.drew):=Ω HBK2.out.drew
      obtain ⟨X0,hX0⟩:∃X0,wo.drew=X0:=⟨_,rfl⟩
      rw [hX0] at HX0 HY0 ⊢
      clear hX0
      refine gj 0 (.pointer (some ⟨w.heap.size,1,none⟩)) ?_
      refine gS 1 (.slice (some ⟨b,off,none⟩) n2 c2) [14] ?_ ?_
      ·intro w2 hSw;obtain ⟨g0,g1,g2,g3⟩:=hSw;go_simp
      refine gj 2 (.int .i64 (k:Int)) ?_
      refine gj 3 (.pointer (some ⟨b,off+k*4,none⟩)) ?_
      refine gj 4 (.pointer (some ⟨b,off+k*4+1,none⟩)) ?_
      refine gS 5 (.slice Ap np cp) [14] ?_ ?_
      ·intro w2 hSw;obtain ⟨g0,g1,g2,g3⟩:=hSw;go_simp
      refine gj 7 (.pointer (some ⟨w.heap.size,1,none⟩)) ?_
      refine gS 8 (.slice (some ⟨b,off,none⟩) n2 c2) [14] ?_ ?_
      ·intro w2 hSw;obtain ⟨g0,g1,g2,g3⟩:=hSw;go_simp
      refine gj 9 (.int .i64 (k:Int)) ?_
      refine gj 10 (.pointer (some ⟨b,off+k*4,none⟩)) ?_
      refine gj 11 (.pointer (some ⟨b,off+k*4+2,none⟩)) ?_
      refine gS 12 (.slice Al nl cl) [14] ?_ ?_
      ·intro w2 hSw;obtain ⟨g0,g1,g2,g3⟩:=hSw;go_simp
      have hn1_:=news_strsR (HPS.out X0 HX0.out).1 HNP.out;have hn2_:=news_strsR (HPS.out X0 HX0.out).2.1 HNL.out
      have HQ1:=Ω hn1_;have HQ2:=Ω hn2_;clear hn1_ hn2_
      refine gO 6 (fun K hK=>?_)
      refine step_append_any _ (by rfl) _ _ _ (by rfl) X0.heap.size 9 z0 _ 1 16 Tryz.underlying47 hi0 hz0 hz1 hz2 rfl (by omega) (.slice none 0 0) 0 ([]) (by rfl) (World.ownsRow_nil _ _ _ _) (Ap) (np) (cp) (x.params.map Value.string) (by rfl) (HQ1.out.1) (HQ1.out.2.1) (HQ1.out.2.2) (by unfold maxLen;omega) (by omega) (Nat.le_refl _) (X0.heap.size) rfl ?_
      intro v1 X1 hown1 hgrow1 hat1
      have hbl:Below X0.heap.size X0 X1:=⟨hgrow1.os,hgrow1.tape,hgrow1.output,hgrow1.size,fun q hq=>hgrow1.block q hq (fun e=>by cases e)⟩
      have HZ1:=Ω hbl
      have HX1:=Ω (HX0.out.trans (hbl.mono HX0.out.size))
      have HO1:=Ω hown1
      clear hown1 hgrow1 hat1 hbl
      refine hK.out _ _ (SO.out _ HX1.out) ?_
      clear hK K
      try simp only [sG]
      refine gO 13 (fun K hK=>?_)
      refine step_append_any _ (by rfl) _ _ _ (by rfl) X0.heap.size 9 z0 _ 1 16 Tryz.underlying47 hi0 hz0 hz1 hz2 rfl (by omega) (v1) (0+np) ([]++x.params.map Value.string) (by rfl) (HO1.out) (Al) (nl) (cl) (x.locals.map Value.string) (by rfl) (HQ2.out.1) ((HQ2.out.2.1.imp id fun ⟨ad,ha,hc⟩=>⟨ad,ha,fun j u hu=>cell_keepR HZ1.out rfl (hc j u hu)⟩)) (HQ2.out.2.2) (by unfold maxLen;omega) (by omega) (HZ1.out.size) (X1.heap.size) rfl ?_
      intro v2 X2 hown2 hgrow2 hat2
      have hbl:Below X0.heap.size X0 X2:=HZ1.out.trans ⟨hgrow2.os,hgrow2.tape,hgrow2.output,hgrow2.size,fun q hq=>hgrow2.block q (ltle hq HZ1.out.size) (fun e=>by have h1:=(HO1.out.lt q e.symm).1;omega)⟩
      have HZ2:=Ω hbl
      have HX2:=Ω (HX0.out.trans (hbl.mono HX0.out.size))
      have HY2:=Ω (HY0.out.trans (hbl.mono HY0.out.size))
      obtain ⟨nv,hnn⟩:∃n,n=0+np+nl:=⟨_,rfl⟩
      rw [←hnn] at hown2
      obtain ⟨Av,cv,hv2⟩:=own_form hown2
      subst hv2
      have HO2:=Ω hown2
      have HNV:=Ω hnn
      have hnv9:nv≤800:=by omega
      clear hown2 hgrow2 hat2 hnn hbl
      refine hK.out _ _ (SO.out _ HX2.out) ?_
      clear hK K
      try simp only [sG]
      refine gL (fun K hK=>?_)
      go_simp
      refine hK.out _ _ ?_
      clear hK K
      try simp only [sG]
      obtain ⟨vars,hvars⟩:∃l,l=x.params++x.locals:=⟨_,rfl⟩
      have hvl:nv=vars.length:=by rw [HNV.out,hvars,List.length_append,←HNP.out,←HNL.out];omega
      have hrow:X2.ownsRow X0.heap.size 9 1 (.slice Av nv cv) nv (vars.map encT):=by have h:=HO2.out;rw [hvars,List.map_append];exact h
      have HVS:Hid (∀X,Below X2.heap.size X2 X→SlR X (· < X.heap.size) 1 RStr (.slice Av nv cv) vars):=Ω (fun X hX=>have h:=own_kept hrow hX;strs_of_own h (fun g hg=>(h.lt g hg).2))
      have HVL:=Ω hvl;have HVARS:=Ω hvars
      obtain ⟨b0,hb0⟩:∃b,b=twiceB vars:=⟨_,rfl⟩
      have HB0:=Ω hb0
      have HTW2:Hid (Calls Tryz.prog 32 #[.slice Av nv cv] X2 fun r w'=>r=.returned (.bool b0)∧Below X2.heap.size X2 w'):=Ω (by rw [hb0];exact twice_doc Av nv cv vars hvl X2 (HVS.out X2 (Below.refl _ _)))
      clear hvl hrow hvars hb0 HO2 HO1 HQ1 HQ2 HNV
      go_wp2_with (go_at_call 32;refine HTW2.out.mono ?_;rintro r X3 ⟨rfl,hb3⟩;have HX23:=Ω hb3;clear hb3)
      have HX3:Hid (Below W.heap.size W X3):=Ω (HX2.out.trans (HX23.out.mono HX2.out.size))
      have HY3:Hid (Below V2.heap.size V2 X3):=Ω (HY2.out.trans (HX23.out.mono HY2.out.size))
      have HHAS:Hid (∀s,Calls Tryz.prog 33 #[.slice Av2 ng cv2,.string s] X3 fun r w'=>r=.returned (.bool (hasS (globalsL p) s))∧X3=w'):=Ω (fun s=>has_doc Av2 ng cv2 (globalsL p) HGL.out s X3 (HGS.out X3 HY3.out))
      have hvs3:=HVS.out X3 HX23.out
      have HV3S:=Ω hvs3
      clear hvs3
      go_loopw [11,12] (fun q i wr=>∃(j:Nat) (bq:Bool),j≤nv∧q=.bool bq∧i=.int .i64 j∧wr=X3∧bq=(b0 || (vars.take j).any fun s=>hasS (globalsL p) s)) (fun _ i _=>nv-(intOf i).toNat)
      case atStart=>exact ⟨0,b0,by omega,rfl,rfl,by trivial,by simp⟩
      case round=>
       obtain ⟨j,bq,hj,rfl,rfl,hw,hbq⟩:=hrel
       subst hw
       have HBQ:=Ω hbq
       clear hbq
       by_cases hjt:j<nv
       case pos=>
        have d2:decide ((j:Int)<(nv:Int))=true:=dT (by omega)
        have hj1:(j:Int)<(nv:Int):=by omega
        have hj0:¬(j:Int)<0:=by omega
        have hjl:j<vars.length:=by rw [←HVL.out];exact hjt
        obtain ⟨bv,ov,hA,hbl,hcl⟩:=name_at HV3S.out hjl
        obtain ⟨s,hs⟩:∃s,s=vars[j]'hjl:=⟨_,rfl⟩
        rw [←hs] at hcl
        subst hA
        have i0:=hcl wr rfl
        obtain ⟨hh,hhh⟩:∃b,b=hasS (globalsL p) s:=⟨_,rfl⟩
        have HH:Hid (Calls Tryz.prog 33 #[.slice Av2 ng cv2,.string s] wr fun r w'=>r=.returned (.bool hh)∧wr=w'):=Ω (by rw [hhh];exact HHAS.out s)
        have HTK:Hid ((vars.take (j+1)).any (fun s=>hasS (globalsL p) s)=((vars.take j).any (fun s=>hasS (globalsL p) s) || hh)):=Ω (by rw [List.take_succ_eq_append_getElem hjl,List.any_append,List.any_cons,List.any_nil,Bool.or_false,←hs,←hhh])
        clear hcl hbl hs hhh hjl
        cases bq with
        |true=>
         go_wp2
         go_roundw
         case rel=>exact ⟨j+1,true,by omega,rfl,by go_num,by trivial,by rw [HTK.out,←Bool.or_assoc,←HBQ.out];rfl⟩
         case measure=>simp [intOf];omega
        |false=>
         go_wp2_with (go_at_call 33;refine HH.out.mono ?_;rintro r w1 ⟨rfl,hw1⟩;subst hw1)
         go_roundw
         case rel=>exact ⟨j+1,hh,by omega,rfl,by go_num,by trivial,by rw [HTK.out,←Bool.or_assoc,←HBQ.out];rfl⟩
         case measure=>simp [intOf];omega
       case neg=>
       have hjn:j=nv:=by omega
       have d2:decide ((j:Int)<(nv:Int))=false:=dF (by omega)
       have HBAD:Hid (bq=(twiceB vars || vars.any fun s=>hasS (globalsL p) s)):=Ω (by rw [HBQ.out,hjn,HVL.out,List.take_length,HB0.out])
       have HFE:Hid (functionE (d+1) p x=if bq then (50,0) else firstAt (fun y=>stmtE p vars (d+1) y.1 y.2) 0 (allL (d+1) x.body false)):=Ω (by rw [HBAD.out,HVARS.out];rfl)
       have HRESF:Hid (∀e nn:Int,functionE (d+1) p x=(e,nn)→e≠0→checkE (d+1) p=(e,(k:Int),nn)):=Ω (fun e nn h h0=>by rw [HCE5.out,funcsE_at (D:=d+1) (p:=p) (e:=e) (n:=nn) 0 HKL.out HNO.out (by rw [←HX.out,h]) h0,Nat.zero_add])
       clear hjn hj HBQ
       obtain ⟨X4,hX4⟩:∃v,v=wr:=⟨_,rfl⟩
       subst hX4
       cases bq with
       |true=>
        have HRES:Hid (checkE (d+1) p=(50,(k:Int),0)):=Ω (HRESF.out 50 0 HFE.out (by decide))
        have r0:=(HRB.out.below HX3.out HRB.out.lt).cell 0;have r1:=(HRB.out.below HX3.out HRB.out.lt).cell 1;have rf0:=(HRB.out.below HX3.out HRB.out.lt).frozen 0;have rf1:=(HRB.out.below HX3.out HRB.out.lt).frozen 1
        go_wp2
        refine bodyPost_ret (results_rc _ _ (w.heap.size+1) 50 (k:Int) 0 rfl rfl (((HRB.out.below HX3.out HRB.out.lt).set_ 0 _).set_ 1 _)) rfl ?_
        exact ⟨by rw [HRES.out],((HB.out.trans (HX3.out.mono HB.out.size)).setCell (p:=⟨w.heap.size+1,0,none⟩) (Nat.le_succ _) _).setCell (p:=⟨w.heap.size+1,1,none⟩) (Nat.le_succ _) _⟩
       |false=>
       have HFE2:Hid (functionE (d+1) p x=firstAt (fun y=>stmtE p vars (d+1) y.1 y.2) 0 (allL (d+1) x.body false)):=Ω HFE.out
       obtain ⟨u,hu⟩:∃u,u=(cntE (fun y=>stmtE p vars (d+1) y.1 y.2) (allL (d+1) x.body false)).1:=⟨_,rfl⟩
       obtain ⟨nn,hnn⟩:∃u,u=(cntE (fun y=>stmtE p vars (d+1) y.1 y.2) (allL (d+1) x.body false)).2:=⟨_,rfl⟩
       have HFE3:Hid (functionE (d+1) p x=(u,if u≠0 then (nn:Int) else 0)):=Ω (by rw [HFE2.out,cntE_firstAt,←hu,←hnn,show ((0:Nat):Int)+(nn:Int)=(nn:Int) by omega])
       have HST:Hid (∀X,Below X2.heap.size X2 X→Calls Tryz.prog 34 #[.agg #[.slice A1 n1 c1,.slice (some ⟨b,off,none⟩) n2 c2],.slice Av nv cv,.slice Ab nb cb,.bool false] X fun r w'=>r=.returned (.tuple #[.int .i64 u,.int .i64 (nn:Int)])∧Below X.heap.size X w'):=Ω (fun X hX=>by
        have hWX:Below W.heap.size W X:=HX2.out.trans (hX.mono HX2.out.size)
        rw [hu,hnn]
        exact stmts_doc (d+1) (d+1) (d+1) (Nat.le_refl _) X p vars A1 (some ⟨b,off,none⟩) Av n1 n2 nv c1 c2 cv ⟨(HIN.out X hWX).1,(HIN.out X hWX).2,HVS.out X hX,HN1.out,HN2.out,HVL.out⟩ x.body false Ab nb cb (HPS.out X hWX).2.2 HNB.out (HFEW.out.stms x HXM.out))
       have SO9:Hid (∀X,Below W.heap.size W X→(fun X=>X.cell? ⟨w.heap.size,0,none⟩=some (.slice A1 n1 c1)∧X.cell? ⟨w.heap.size,1,none⟩=some (.slice (some ⟨b,off,none⟩) n2 c2)∧X.cell? ⟨b,off+k*4+3,none⟩=some (.slice Ab nb cb)) X):=Ω (fun X hX=>⟨(HCL.out X hX).1,(HCL.out X hX).2,(HCX.out X hX).2.2⟩)
       clear hu hnn HFE HFE2
       go_upto_region 29 with fail
       refine wp_region_G 13 (fun X=>X.cell? ⟨w.heap.size,0,none⟩=some (.slice A1 n1 c1)∧X.cell? ⟨w.heap.size,1,none⟩=some (.slice (some ⟨b,off,none⟩) n2 c2)∧X.cell? ⟨b,off+k*4+3,none⟩=some (.slice Ab nb cb)) (SO9.out _ HX3.out.drew) ?_
       change GL _ _ _ _ _ 13 14 (Array.replicate 14 false) _ _
       have HZ0:Hid (Below X2.heap.size X2 X4.drew):=Ω HX23.out.drew
       have HW0:Hid (Below W.heap.size W X4.drew):=Ω HX3.out.drew
       have HV0:Hid (Below V2.heap.size V2 X4.drew):=Ω HY3.out.drew
       obtain ⟨Z0,hZ0⟩:∃Z0,X4.drew=Z0:=⟨_,rfl⟩
       rw [hZ0] at HZ0 HW0 HV0 ⊢
       clear hZ0
       refine gS 0 (.agg #[.slice A1 n1 c1,.slice (some ⟨b,off,none⟩) n2 c2]) [13] ?_ ?_
       ·intro w2 hSw;obtain ⟨g0,g1,g2⟩:=hSw;go_simp
       refine gj 1 (.slice Av nv cv) ?_
       refine gj 2 (.pointer (some ⟨w.heap.size,1,none⟩)) ?_
       refine gS 3 (.slice (some ⟨b,off,none⟩) n2 c2) [13] ?_ ?_
       ·intro w2 hSw;obtain ⟨g0,g1,g2⟩:=hSw;go_simp
       refine gj 4 (.int .i64 (k:Int)) ?_
       refine gj 5 (.pointer (some ⟨b,off+k*4,none⟩)) ?_
       refine gj 6 (.pointer (some ⟨b,off+k*4+3,none⟩)) ?_
       refine gS 7 (.slice Ab nb cb) [13] ?_ ?_
       ·intro w2 hSw;obtain ⟨g0,g1,g2⟩:=hSw;go_simp
       refine gO 8 (fun K hK=>?_)
       go_simp
       refine (HST.out Z0 HZ0.out).mono ?_
       rintro r Z1 ⟨rfl,hb⟩
       have HW1:=Ω (HW0.out.trans (hb.mono HW0.out.size))
       have HV1:=Ω (HV0.out.trans (hb.mono HV0.out.size))
       clear hb
       refine hK.out _ _ (SO9.out _ HW1.out) ?_
       clear hK K
       try simp only [sG]
       refine gj 9 (.tuple #[.int .i64 u,.int .i64 (nn:Int)]) ?_
       refine gj 10 (.int .i64 u) ?_
       refine gj 11 (.int .i64 (nn:Int)) ?_
       refine gj 12 (.int .i64 u) ?_
       refine gL (fun K hK=>?_)
       go_simp
       refine hK.out _ _ ?_
       clear hK K
       try simp only [sG]
       by_cases h0:u=0
       case neg=>
        have q1:(u == 0)=false:=by rw [beq_dec];exact dF h0
        have q2:(u != 0)=true:=by rw [bne,q1];rfl
        have HRES:Hid (checkE (d+1) p=(u,(k:Int),(nn:Int))):=Ω (HRESF.out u nn (by rw [HFE3.out,if_pos h0]) h0)
        clear h0
        have r0:=(HRB.out.below HW1.out HRB.out.lt).cell 0;have r1:=(HRB.out.below HW1.out HRB.out.lt).cell 1;have rf0:=(HRB.out.below HW1.out HRB.out.lt).frozen 0;have rf1:=(HRB.out.below HW1.out HRB.out.lt).frozen 1
        go_wp2
        refine bodyPost_ret (results_rc _ _ (w.heap.size+1) u (k:Int) (nn:Int) rfl rfl (((HRB.out.below HW1.out HRB.out.lt).set_ 0 _).set_ 1 _)) rfl ?_
        exact ⟨by rw [HRES.out],((HB.out.trans (HW1.out.mono HB.out.size)).setCell (p:=⟨w.heap.size+1,0,none⟩) (Nat.le_succ _) _).setCell (p:=⟨w.heap.size+1,1,none⟩) (Nat.le_succ _) _⟩
       case pos=>
       have q1:(u == 0)=true:=beq_iff_eq.2 h0
       have q2:(u != 0)=false:=by rw [bne,q1];rfl
       have HU0:Hid ((functionE (d+1) p x).1=0):=Ω (by rw [HFE3.out];exact h0)
       clear h0
       go_wp2
       go_roundw
       case rel=>
        refine ⟨k+1,by omega,by go_num,fun j hj hjk=>?_,HW1.out,HV1.out⟩
        by_cases e:j<k
        ·exact HNO.out j hj e
        ·obtain rfl:j=k:=by omega
         rw [←HX.out];exact HU0.out
       case measure=>simp [intOf];omega
end
end Go.Proofs.YtmignlclfbaifaaGreat
