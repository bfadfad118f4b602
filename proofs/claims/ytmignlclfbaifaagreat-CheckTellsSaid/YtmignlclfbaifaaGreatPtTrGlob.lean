/- What check.globals hands back: the names of arrays and functions, in a row of the call's own. The library's functions that are leaned on: their bodies are those that the shelf's contracts speak of. Printed by wip/gen_lays.py. slices.Concat at two rows of texts: the one behind the other, in a row of the call's own. -/
import Derived.Test.YtmignlclfbaifaaGreatPtTrSeqs
import Derived.Test.YtmignlclfbaifaaGreatPtTrBase
import Derived.Deep.AppendLies
import Derived.Test.YtmignlclfbaifaaGreatRows
import Derived.Shelf.Lays8
import Derived.Shelf.Spec.SlicesGrow
namespace Go.Proofs.YtmignlclfbaifaaGreat
open Go.RowKit Go.Sort Go.Shelf
structure NamesAt (W wr:World) (v:Value) (l:List ByteArray):Prop where
 row:wr.ownsRow W.heap.size 9 1 v l.length (l.map encT)
 below:Below W.heap.size W wr
theorem namesAt_next {W wr w1:World} {v:Value} {l:List ByteArray} {s:ByteArray} {n g cap:Nat} {xs:List Value} {o1 o2:Obj} (h:NamesAt W wr v l) (hn:n=l.length) (hx:xs=l.map encT) (hown:w1.ownsRow W.heap.size 9 1 (.slice (some ⟨g,0,none⟩) (n+1) cap) (n+1) (xs++[.string s]))
  (hg:((wr.alloc o1).alloc o2).grownBy w1 v.ownBlock):NamesAt W w1 (.slice (some ⟨g,0,none⟩) (n+1) cap) (l++[s]):=by
 subst hn
 subst hx
 have hs:=h.below.size
 refine ⟨by simpa [encT] using hown,?_⟩
 refine ((h.below.alloc hs o1).alloc (by simp;omega) o2).grown hg (by simp;omega) (fun k e=>?_)
 have:=h.row.lt k e
 omega
theorem take_map_succ {α:Type} (f:α→ByteArray) (l:List α) (k:Nat) (h:k<l.length):(l.map f).take (k+1)=(l.map f).take k++[f l[k]]:=by
 rw [List.take_succ_eq_append_getElem (by simpa using h)];simp
theorem take_map_len {α:Type} (f:α→ByteArray) (l:List α) (k:Nat) (h:k≤l.length):((l.map f).take k).length=k:=by simp;omega
section
set_option maxRecDepth 100000
set_option maxHeartbeats 4000000
theorem globals_any (d:Nat) (u:LProg) (A1 A2:Option Addr) (c1 c2:Nat) (w:World) (ha:SlR w (· < w.heap.size) 2 RArr (.slice A1 u.arrays.length c1) u.arrays) (hf:SlR w (· < w.heap.size) 4 (RFunc d w (· < w.heap.size)) (.slice A2 u.funcs.length c2) u.funcs) (hl1:u.arrays.length≤400) (hl2:u.funcs.length≤400) :
  Calls Tryz.prog 29 #[.agg #[.slice A1 u.arrays.length c1,.slice A2 u.funcs.length c2]] w fun e w'=>∃v,e=.returned v∧w'.ownsRow w.heap.size 9 1 v (globalsL u).length ((globalsL u).map encT)∧Below w.heap.size w w':=by
 obtain ⟨z0,hi0,hz0,hz1,hz2⟩:=info_parts info_string
 have HAA:=Ω ha
 have HFF:=Ω hf
 clear ha hf
 go_enter Tryz.func29,Tryz.ntmps29
 go_upto_region 1 with fail
 refine wp_world ?_
 intro W hW
 have hB:Below w.heap.size w W:=by rw [←hW];exact below1 _ _
 have hU:Blk W w.heap.size 27 #[.slice A1 u.arrays.length c1,.slice A2 u.funcs.length c2]:=by rw [←hW];exact Blk.new_at _ _ _ rfl
 clear hW
 have up:∀b,b<w.heap.size→b<W.heap.size:=fun b h=>ltle h hB.size
 have kp:Keeps (· < w.heap.size) w W:=fun b h=>hB.block b h
 have HA:=Ω (HAA.out.imp (ok':=(· < W.heap.size)) (R':=RArr) up kp (fun _ _ _ r=>r))
 have HF:=Ω (HFF.out.imp (ok':=(· < W.heap.size)) (R':=RFunc d W (· < W.heap.size)) up kp (fun _ _ _ r=>r.imp up kp))
 have u0:W.cell? ⟨w.heap.size,0,none⟩=some (.slice A1 u.arrays.length c1):=hU.cell 0
 have HU:=Ω hU
 have HB:=Ω hB
 clear up kp hU hB HAA HFF
 go_wp2
 clear u0
 go_loopw [2,10] (fun v i wr=>∃k:Nat,k≤u.arrays.length∧i=.int .i64 k∧NamesAt W wr v ((u.arrays.map (·.1)).take k)) (fun _ i _=>u.arrays.length-(RowKit.intOf i).toNat)
 case atStart=>exact ⟨0,by omega,rfl,World.ownsRow_nil _ _ _ _,Below.refl _ _⟩
 case round=>
  obtain ⟨k,hk,rfl,hna⟩:=hrel
  obtain ⟨Av,cv,hv⟩:=own_form hna.row
  have htl:=take_map_len (·.1) u.arrays k hk
  rw [htl] at hv
  subst hv
  have hbr:=hna.below
  have hsz:=hbr.size
  by_cases hlt:k<u.arrays.length
  ·have d1:decide ((k:Int)<(u.arrays.length:Int))=true:=dT (by omega)
   obtain ⟨b3,o3,c3,f3,_,_,hb3,q3⟩:=HA.out.form (by omega)
   obtain rfl:A1=some ⟨b3,o3,none⟩:=by injection f3
   obtain ⟨cs,_,hcs,hcell⟩:=q3 k hlt
   obtain ⟨x,hx⟩:∃x,x=u.arrays[k]:=⟨_,rfl⟩
   rw [←hx] at hcs
   obtain ⟨nm,sz⟩:=x
   subst hcs
   have hcw:=hcell.keep (hbr.block b3 hb3)
   have i0:wr.cell? ⟨b3,o3+k*2,none⟩=some (.string nm):=by have h:=hcw.at_ (j:=0) rfl;simpa using h
   have i1:wr.cell? ⟨b3,o3+k*2+1,none⟩=some (.int .i64 sz):=hcw.at_ (j:=1) rfl
   have hts:=take_map_succ (·.1) u.arrays k hlt
   rw [←hx] at hts
   have HTS:=Ω hts
   have hown:wr.ownsRow W.heap.size 9 1 (.slice Av k cv) k (((u.arrays.map (·.1)).take k).map encT):=by have h:=hna.row;rw [htl] at h;exact h
   have HNA:=Ω hna
   have HTL:=Ω htl
   clear f3 q3 hcell hcw hx hts htl hna hb3
   generalize hxs:((u.arrays.map (·.1)).take k).map encT=xs at *
   have HXS:=Ω hxs
   clear hxs
   go_wp2_with (at_builtin;refine wpList_append_lies _ rfl (.tmp 14) (.tmp 17) _ rfl W.heap.size 9 z0 _ 1 16 Tryz.underlying47 hi0 hz0 hz1 hz2 rfl (by decide) _ _ _ rfl ((hown.alloc _).alloc _) ⟨wr.heap.size+1,0,none⟩ 1 1 [.string nm] rfl rfl (World.news_of_block (cs:=#[.string nm]) (t:=9) (fr:=(0,0)) (Blk.new_at _ _ _ (by simp))) (by simp [Value.oneCell']) (by decide) (by unfold maxLen;omega) (by omega) (by simp;omega) (wr.heap.size+1+1) (by simp) ?_;intro g cap w1 hown1 hgrow hat hlt1)
   go_roundw
   case rel=>
    refine ⟨k+1,by omega,by go_num,?_⟩
    rw [HTS.out]
    exact namesAt_next HNA.out HTL.out.symm HXS.out.symm hown1 hgrow
   case measure=>simp [RowKit.intOf];omega
  ·obtain rfl:k=u.arrays.length:=by omega
   have htk:(u.arrays.map (·.1)).take u.arrays.length=u.arrays.map (·.1):=List.take_of_length_le (by simp)
   rw [htk] at hna
   have u1:wr.cell? ⟨w.heap.size,1,none⟩=some (.slice A2 u.funcs.length c2):=(HU.out.below hbr HU.out.lt).cell 1
   have HNA:=Ω hna
   clear htk hna hbr hsz htl
   obtain ⟨wo,hwo⟩:∃wo,wo=wr:=⟨_,rfl⟩
   subst hwo
   go_wp2
   clear u1 hlt
   go_loopw [2,23] (fun v i wr=>∃k:Nat,k≤u.funcs.length∧i=.int .i64 k∧NamesAt W wr v (u.arrays.map (·.1)++(u.funcs.map (·.name)).take k)) (fun _ i _=>u.funcs.length-(RowKit.intOf i).toNat)
   case atStart=>
    refine ⟨0,by omega,rfl,?_⟩
    rw [List.take_zero,List.append_nil]
    exact HNA.out
   case round=>
    obtain ⟨k2,hk2,rfl,hna⟩:=hrel
    obtain ⟨Av2,cv2,hv⟩:=own_form hna.row
    have htl:(u.arrays.map (·.1)++(u.funcs.map (·.name)).take k2).length=u.arrays.length+k2:=by rw [List.length_append,take_map_len (·.name) u.funcs k2 hk2,List.length_map]
    rw [htl] at hv
    subst hv
    have hbr:=hna.below
    have hsz:=hbr.size
    by_cases hlt:k2<u.funcs.length
    ·have d1:decide ((k2:Int)<(u.funcs.length:Int))=true:=dT (by omega)
     obtain ⟨b3,o3,c3,f3,_,_,hb3,q3⟩:=HF.out.form (by omega)
     obtain rfl:A2=some ⟨b3,o3,none⟩:=by injection f3
     obtain ⟨cs,_,⟨vp,vl,vb,hcs,hsp,hsl,hsb⟩,hcell⟩:=q3 k2 hlt
     obtain ⟨x,hx⟩:∃x,x=u.funcs[k2]:=⟨_,rfl⟩
     rw [←hx] at hcs hsp hsl hsb
     obtain ⟨Ap,cp,rfl,_,_⟩:=hsp.val
     obtain ⟨Al,cl,rfl,_,_⟩:=hsl.val
     obtain ⟨Ab,cb,rfl,_,_⟩:=hsb.val
     obtain ⟨nm,ps,ls,bs⟩:=x
     subst hcs
     have hcw:=hcell.keep (hbr.block b3 hb3)
     have i0:wr.cell? ⟨b3,o3+k2*4,none⟩=some (.string nm):=by have h:=hcw.at_ (j:=0) rfl;simpa using h
     have i1:wr.cell? ⟨b3,o3+k2*4+1,none⟩=some (.slice Ap ps.length cp):=hcw.at_ (j:=1) rfl
     have i2:wr.cell? ⟨b3,o3+k2*4+2,none⟩=some (.slice Al ls.length cl):=hcw.at_ (j:=2) rfl
     have i3:wr.cell? ⟨b3,o3+k2*4+3,none⟩=some (.slice Ab bs.length cb):=hcw.at_ (j:=3) rfl
     have hts:=take_map_succ (·.name) u.funcs k2 hlt
     rw [←hx] at hts
     have HTS:=Ω hts
     have hown:wr.ownsRow W.heap.size 9 1 (.slice Av2 (u.arrays.length+k2) cv2) (u.arrays.length+k2) ((u.arrays.map (·.1)++(u.funcs.map (·.name)).take k2).map encT):=by have h:=hna.row;rw [htl] at h;exact h
     have HNA2:=Ω hna
     have HTL:=Ω htl
     clear f3 q3 hcell hcw hx hts htl hna hb3 hsp hsl hsb
     generalize hxs:(u.arrays.map (·.1)++(u.funcs.map (·.name)).take k2).map encT=xs at *
     have HXS:=Ω hxs
     clear hxs
     go_wp2_with (at_builtin;refine wpList_append_lies _ rfl (.tmp 27) (.tmp 30) _ rfl W.heap.size 9 z0 _ 1 16 Tryz.underlying47 hi0 hz0 hz1 hz2 rfl (by decide) _ _ _ rfl ((hown.alloc _).alloc _) ⟨wr.heap.size+1,0,none⟩ 1 1 [.string nm] rfl rfl (World.news_of_block (cs:=#[.string nm]) (t:=9) (fr:=(0,0)) (Blk.new_at _ _ _ (by simp))) (by simp [Value.oneCell']) (by decide) (by unfold maxLen;omega) (by omega) (by simp;omega) (wr.heap.size+1+1) (by simp) ?_;intro g cap w1 hown1 hgrow hat hlt1)
     go_roundw
     case rel=>
      refine ⟨k2+1,by omega,by go_num,?_⟩
      rw [HTS.out,←List.append_assoc]
      exact namesAt_next HNA2.out HTL.out.symm HXS.out.symm hown1 hgrow
     case measure=>simp [RowKit.intOf];omega
    ·have htk:u.arrays.map (·.1)++(u.funcs.map (·.name)).take k2=globalsL u:=by rw [List.take_of_length_le (by simp;omega)];rfl
     rw [htk] at hna
     have hlA:u.arrays.length+k2=(globalsL u).length:=by rw [←htl,htk]
     have hk3:k2=u.funcs.length:=by omega
     have HNA3:=Ω hna
     have HLA:=Ω hlA
     clear htk hna hlA htl hbr hsz
     subst hk3
     go_wp2
     go_ret
     refine ⟨.slice Av2 (globalsL u).length cv2,?_,?_,HB.out.trans (HNA3.out.below.mono HB.out.size)⟩
     ·rw [←HLA.out];rfl
     ·have h:=own_low HNA3.out.row HB.out.size
      rw [HLA.out] at h
      exact h
end
end Go.Proofs.YtmignlclfbaifaaGreat
namespace Go.Proofs.YtmignlclfbaifaaGreat
open Go.Shelf Go.Proofs
def Tryz.growS_ren:Go.Shelf.Ren:=⟨fun|4=>69|n=>n,fun|22=>47|25=>9|3=>3|4=>4|9=>9|20=>20|0=>0|n=>n,fun|n=>n⟩
theorem Tryz.growS:Go.Proofs.Lays8.n4 Tryz.prog Tryz.growS_ren:={
 mixed:=by kernel_rfl,
 f4:=⟨Tryz.f69.name,by decide,Tryz.func69.trans (congrArg some (by kernel_rfl))⟩,
 t0:=Tryz.underlying0,
 a0:=Tryz.isAgg0,
 z0:=Tryz.sizeOf0,
 v0:=Tryz.zeroValue0,
 t3:=Tryz.underlying3,
 a3:=Tryz.isAgg3,
 z3:=Tryz.sizeOf3,
 v3:=Tryz.zeroValue3,
 t4:=Tryz.underlying4,
 a4:=Tryz.isAgg4,
 z4:=Tryz.sizeOf4,
 v4:=Tryz.zeroValue4,
 t9:=Tryz.underlying9,
 a9:=Tryz.isAgg9,
 z9:=Tryz.sizeOf9,
 v9:=Tryz.zeroValue9,
 t20:=Tryz.underlying20,
 a20:=Tryz.isAgg20,
 z20:=Tryz.sizeOf20,
 v20:=Tryz.zeroValue20,
 t22:=Tryz.underlying47,
 a22:=Tryz.isAgg47,
 z22:=Tryz.sizeOf47,
 v22:=Tryz.zeroValue47 }
end Go.Proofs.YtmignlclfbaifaaGreat
namespace Go.Proofs.YtmignlclfbaifaaGreat
open Go.RowKit Go.Sort Go.Shelf
theorem news_of_str {w:World} {ok:Nat→Prop} {A:Option Addr} {n c:Nat} {l:List ByteArray} (h:SlR w ok 1 RStr (.slice A n c) l):l.length=0∨∃ad,A=some ad∧ok ad.block∧∀j u,(l.map encT)[j]?=some u→w.cell? (ad.add j)=some u:=by
 rcases Nat.eq_zero_or_pos l.length with h0|h0
 ·exact .inl h0
 ·obtain ⟨b,off,c',hv,_,_,hok,hel⟩:=h.form h0
  have hA:A=some ⟨b,off,none⟩:=by injection hv
  refine .inr ⟨_,hA,hok,fun j u hu=>?_⟩
  obtain ⟨hj,hju⟩:=List.getElem?_eq_some_iff.1 hu
  have hj':j<l.length:=by simpa using hj
  obtain ⟨cs,_,hcs,hc⟩:=hel j hj'
  obtain rfl:cs=[.string l[j]]:=hcs
  have:=hc.at_ (j:=0) rfl
  rw [Addr.add_lit]
  rw [←hju,List.getElem_map]
  simpa [encT] using this
theorem encT_ones (l:List ByteArray):∀u∈l.map encT,u.oneCell'=true:=by
 intro u hu
 obtain ⟨s,_,rfl⟩:=List.mem_map.1 hu
 rfl
theorem grow_nil (n:Nat) (hn:n≤4000) (w:World):Calls Tryz.prog 69 #[.slice none 0 0,.int .i64 (n:Int)] w fun e w'=>∃v,e=.returned v∧w'.ownsRow w.heap.size 9 1 v 0 []∧Below w.heap.size w w':=by
 rcases Nat.eq_zero_or_pos n with h|h
 ·subst h
  refine (Any8.slices_Grow_room Tryz.growS none 0 0 0 w (Nat.le_refl _) (by omega) (by omega) (by omega)).mono ?_
  rintro e w' ⟨rfl,rfl⟩
  exact ⟨_,rfl,World.ownsRow_nil _ _ _ _,Below.refl _ _⟩
 ·obtain ⟨i0,hi0,hz0,hz1,hz2⟩:=info_parts info_string
  refine (Any8.slices_Grow_grow Tryz.growS i0 (.string ⟨#[]⟩) hi0 hz0 (by rw [hz1];decide) none 0 0 n [] w (Nat.le_refl _) (by omega) (by rw [hz2];omega) (by omega) (by simp) (fun _=>rfl) (fun a e=>by cases e)).mono ?_
  rintro e w' ⟨rfl,rfl⟩
  refine ⟨_,rfl,⟨rfl,.inr ⟨w.heap.size,_,_,rfl,Nat.le_refl _,Blk.new w.drew _ _,Nat.zero_le _,grownCap_le_maxLen w (0+n) 0 _ (by unfold maxLen;omega),?_,by simp⟩⟩,(Below.refl _ _).drew.alloc (Nat.le_refl _) _⟩
  have hg:=grownCap_ge w (0+n) 0 9
  show (#[]++Builtin.zeroCells (Value.string ⟨#[]⟩).cells (0+n-0)++Builtin.zeroCells (Value.string ⟨#[]⟩).cells (grownCap w (0+n) 0 9-(0+n))).size=grownCap w (0+n) 0 9*1
  simp [size_zeroCells,Value.cells]
  simp at hg
  omega
section
set_option maxRecDepth 100000
set_option maxHeartbeats 4000000
theorem concat_any (l1 l2:List ByteArray) (A1 A2:Option Addr) (c1 c2 gb:Nat) (t:TypeId) (w:World) (hb:Blk w gb t #[.slice A1 l1.length c1,.slice A2 l2.length c2]) (h1:SlR w (· < w.heap.size) 1 RStr (.slice A1 l1.length c1) l1) (h2:SlR w (· < w.heap.size) 1 RStr (.slice A2 l2.length c2) l2) (hl1:l1.length≤400) (hl2:l2.length≤400) :
  Calls Tryz.prog 49 #[.slice (some ⟨gb,0,none⟩) 2 2] w fun e w'=>∃v,e=.returned v∧w'.ownsRow w.heap.size 9 1 v (l1++l2).length ((l1++l2).map encT)∧Below w.heap.size w w':=by
 obtain ⟨z0,hi0,hz0,hz1,hz2⟩:=info_parts info_string
 have b0:w.cell? ⟨gb,0,none⟩=some (.slice A1 l1.length c1):=hb.cell 0
 have b1:w.cell? ⟨gb,1,none⟩=some (.slice A2 l2.length c2):=hb.cell 1
 have hgb:=hb.lt
 have HB:=Ω hb
 have H1:=Ω h1
 have H2:=Ω h2
 clear hb h1 h2
 obtain ⟨n1,hn1⟩:∃n,n=l1.length:=⟨_,rfl⟩
 obtain ⟨n2,hn2⟩:∃n,n=l2.length:=⟨_,rfl⟩
 rw [←hn1] at b0 hl1 H1 HB
 rw [←hn2] at b1 hl2 H2 HB
 have HN1:=Ω hn1
 have HN2:=Ω hn2
 clear hn1 hn2
 go_enter Tryz.func49,Tryz.ntmps49
 go_wp2
 go_loopw [3,5,11] (fun s _ i wr=>wr=w∧∃k m:Nat,k≤2∧i=.int .i64 k∧s=.int .i64 m∧((k=0∧m=0)∨(k=1∧m=n1)∨(k=2∧m=n1+n2))) (fun _ _ i _=>2-(intOf i).toNat)
 case atStart=>exact ⟨rfl,0,0,by omega,rfl,rfl,.inl ⟨rfl,rfl⟩⟩
 case round=>
  obtain ⟨rfl,k,m,hk,rfl,rfl,hkm⟩:=hrel
  rcases hkm with ⟨rfl,rfl⟩|⟨rfl,rfl⟩|⟨rfl,rfl⟩
  ·have d1:decide ((n1:Int)<0)=false:=dF (by omega)
   have d2:decide ((0:Int)+(n1:Int)<0)=false:=dF (by omega)
   go_wp2
   go_roundw
   case rel=>exact ⟨trivial,1,n1,by omega,by go_num,by go_num,.inr (.inl ⟨rfl,rfl⟩)⟩
   case measure=>simp [intOf]
  ·have d2:decide ((m:Int)+(n2:Int)<0)=false:=dF (by omega)
   go_wp2
   go_roundw
   case rel=>exact ⟨trivial,2,m+n2,by omega,by go_num,by go_num,.inr (.inr ⟨rfl,rfl⟩)⟩
   case measure=>simp [intOf]
  ·go_wp2_with (go_at_call 69;refine (grow_nil (n1+n2) (by omega) _).mono ?_;rintro e W ⟨v,rfl,hrow,hbw⟩)
   obtain ⟨w0,hw0⟩:∃w0,w0=wr:=⟨_,rfl⟩
   subst hw0
   have HBW:=Ω hbw
   obtain ⟨Av,cv,rfl⟩:=own_form hrow
   have c0:W.cell? ⟨gb,0,none⟩=some (.slice A1 n1 c1):=(hbw.cell (p:=⟨gb,0,none⟩) hgb).trans b0
   have c1':W.cell? ⟨gb,1,none⟩=some (.slice A2 n2 c2):=(hbw.cell (p:=⟨gb,1,none⟩) hgb).trans b1
   have HR0:=Ω hrow
   clear hrow hbw
   go_loopw [6,8,27] (fun s _ i wo=>∃k:Nat,k≤2∧i=.int .i64 k∧∃xs:List ByteArray,((k=0∧xs=[])∨(k=1∧xs=l1)∨(k=2∧xs=l1++l2))∧wo.ownsRow w0.heap.size 9 1 s xs.length (xs.map encT)∧Below w0.heap.size w0 wo) (fun _ _ i _=>2-(intOf i).toNat)
   case atStart=>exact ⟨0,by omega,rfl,[],.inl ⟨rfl,rfl⟩,HR0.out,HBW.out⟩
   case round=>
    obtain ⟨k,hk,rfl,xs,hx,hro,hbo⟩:=hrel
    rcases hx with ⟨rfl,hx⟩|⟨rfl,hx⟩|⟨rfl,hx⟩
    ·rw [hx] at hro
     clear hx
     obtain ⟨Av,cv,rfl⟩:=own_form hro
     have hro2:wr.ownsRow w0.heap.size 9 1 (.slice Av 0 cv) 0 (([]:List ByteArray).map encT):=hro
     have HROW:=Ω hro2
     have HSZ:Hid (w0.heap.size≤wr.heap.size):=Ω hbo.size
     have HNEWS:Hid (n1=0∨∃ad,A1=some ad∧∀j u,(l1.map encT)[j]?=some u→wr.cell? (ad.add j)=some u):=Ω ((news_of_str H1.out).elim (fun h=>.inl (by rw [HN1.out];exact h)) (fun ⟨ad,e,hlt,h⟩=>.inr ⟨ad,e,fun j u hu=>(hbo.cell (p:=ad.add j) (by unfold Addr.add;split <;> exact hlt)).trans (h j u hu)⟩))
     have d0:wr.cell? ⟨gb,0,none⟩=some (.slice A1 n1 c1):=(hbo.cell (p:=⟨gb,0,none⟩) hgb).trans b0
     have HBO:=Ω hbo
     show Code.wp _ _ _ _ _
     clear hro hro2 hbo
     go_wp2_with (at_builtin;refine wpList_append_any _ rfl _ _ 47 rfl w0.heap.size 9 z0 _ 1 16 Tryz.underlying47 hi0 hz0 hz1 hz2 rfl (by decide) _ 0 _ rfl HROW.out A1 n1 c1 (l1.map encT) rfl (by rw [List.length_map,←HN1.out,Nat.mul_one]) HNEWS.out (encT_ones l1) (by unfold maxLen;omega) (by omega) HSZ.out _ rfl ?_;intro v' w1 hown1 hgrow1 hat1)
     go_roundw
     case rel=>
      refine ⟨1,by omega,by go_num,l1,.inr (.inl ⟨rfl,rfl⟩),?_,HBO.out.grown hgrow1 HBO.out.size (fun j e=>by have:=HROW.out.lt j e;omega)⟩
      have e1:l1.length=0+n1:=by rw [HN1.out];omega
      rw [e1]
      simpa using hown1
     case measure=>simp [intOf]
    ·rw [hx] at hro
     clear hx
     obtain ⟨Av,cv,rfl⟩:=own_form hro
     have hro2:wr.ownsRow w0.heap.size 9 1 (.slice Av n1 cv) n1 (l1.map encT):=by rw [HN1.out];exact hro
     have HROW:=Ω hro2
     have HSZ:Hid (w0.heap.size≤wr.heap.size):=Ω hbo.size
     have HNEWS:Hid (n2=0∨∃ad,A2=some ad∧∀j u,(l2.map encT)[j]?=some u→wr.cell? (ad.add j)=some u):=Ω ((news_of_str H2.out).elim (fun h=>.inl (by rw [HN2.out];exact h)) (fun ⟨ad,e,hlt,h⟩=>.inr ⟨ad,e,fun j u hu=>(hbo.cell (p:=ad.add j) (by unfold Addr.add;split <;> exact hlt)).trans (h j u hu)⟩))
     have d1:wr.cell? ⟨gb,1,none⟩=some (.slice A2 n2 c2):=(hbo.cell (p:=⟨gb,1,none⟩) hgb).trans b1
     have HBO:=Ω hbo
     rw [←HN1.out]
     clear hro hro2 hbo
     go_wp2_with (at_builtin;refine wpList_append_any _ rfl _ _ 47 rfl w0.heap.size 9 z0 _ 1 16 Tryz.underlying47 hi0 hz0 hz1 hz2 rfl (by decide) _ n1 _ rfl HROW.out A2 n2 c2 (l2.map encT) rfl (by rw [List.length_map,←HN2.out,Nat.mul_one]) HNEWS.out (encT_ones l2) (by unfold maxLen;omega) (by omega) HSZ.out _ rfl ?_;intro v' w1 hown1 hgrow1 hat1)
     go_roundw
     case rel=>
      refine ⟨2,by omega,by go_num,(l1++l2),.inr (.inr ⟨rfl,rfl⟩),?_,HBO.out.grown hgrow1 HBO.out.size (fun j e=>by have:=HROW.out.lt j e;omega)⟩
      have e1:(l1++l2).length=n1+n2:=by rw [List.length_append,HN1.out,HN2.out]
      rw [e1]
      simpa using hown1
     case measure=>simp [intOf]
    ·rw [hx] at hro
     clear hx
     have HRO:=Ω hro
     have HBO:=Ω hbo
     clear hro hbo
     go_wp2
     go_ret
     exact ⟨_,rfl,HRO.out,HBO.out⟩
end
end Go.Proofs.YtmignlclfbaifaaGreat
