/- Some name, of a raw number: counterprooflaw02.Var; counterprooflaw03.odd. Printed by wip/gen_frvar.py. The generator's scope, free or not: what there is in memory; name and array: some name, some array. Printed by wip/gen_frscope.py. The generator's expressions: (scope).expr, free or not: some expression, at most so deep. Printed by wip/gen_frexpl.py. The generator: a row of expressions that grows in a box of the call's own. The generator's statements: what is handed back, and the states in the midst of it. Plain laws, no walk. -/
import Derived.Test.YtmignlclfbaifaaGreatPtTrSrc
import Derived.Test.YtmignlclfbaifaaGreatPtInv
import Derived.Laws.BytesString
namespace Go.Proofs.YtmignlclfbaifaaGreat
open Go.RowKit
theorem pick2_raw (a n:Int) (ha:-9223372036854775808≤a) (ha':a≤9223372036854775807) (hn:0<n) (w:World):Calls Tryz.prog 60 #[.int .i64 a,.int .i64 n] w fun e w'=>e=.returned (.int .i64 (pk a n))∧w=w':=by
 have h0:1≤n:=hn
 have h1:(n == 0)=false:=by rw [beq_eq_false_iff_ne];omega
 by_cases h:a<0
 ·have h2:0≤-(a+1):=by omega
  have hp:Hid (pk a n=-(a+1).tmod n):=by show pk a n=_;rw [pk,if_pos h,←Int.tmod_eq_emod_of_nonneg h2,Int.neg_tmod]
  go_enter Tryz.func60,Tryz.ntmps60
  go_wp2
  go_ret
  exact ⟨congrArg (fun x=>Ending.returned (Value.int .i64 x)) hp.out.symm,rfl⟩
 ·have hp:Hid (pk a n=a%n):=by show pk a n=_;rw [pk,if_neg h]
  have h2:0≤a:=by omega
  go_enter Tryz.func60,Tryz.ntmps60
  go_wp2
  go_ret
  exact ⟨congrArg (fun x=>Ending.returned (Value.int .i64 x)) hp.out.symm,rfl⟩
theorem pick2_n (a:Int) (ha:I64 a) (n:Nat) (hn:0<n):∃i:Nat,i<n∧(i:Int)=pk a n∧∀w,Calls Tryz.prog 60 #[.int .i64 a,.int .i64 (n:Int)] w fun e w'=>e=.returned (.int .i64 (i:Int))∧w=w':=by
 have h0:=pk_lo a n (by omega)
 have h1:=pk_hi a n (by omega)
 refine ⟨(pk a n).toNat,by omega,by omega,fun w=>(pick2_raw a n ha.1 ha.2 (by omega) w).mono ?_⟩
 rintro e w' ⟨he,hw⟩
 refine ⟨?_,hw⟩
 rw [he]
 congr 2
 omega
theorem grown_own {w X:World} {sb:Nat} (h:w.grownBy X (some sb)) (g:Nat) (hg:w.heap.size≤g) (o:Nat) (v:Value):w.grownBy (X.setCell ⟨g,o,none⟩ v) (some sb):=
 ⟨h.os,h.tape,h.output,by simpa [World.setCell] using h.size,fun k hk hne=>(bhs X ⟨g,o,none⟩ v k (by show k≠g;omega)).trans (h.block k hk hne)⟩
def OwnBlk (n0:Nat) (w:World) (T:TypeId) (cs:Array Value) (f:Nat→Value) (x:Value):Prop:=∃g,x=f g∧Blk w g T cs∧n0≤g
theorem OwnBlk.grown {n0 sb:Nat} {w w':World} {T:TypeId} {cs:Array Value} {f:Nat→Value} {x:Value} (h:OwnBlk n0 w T cs f x) (hg:w.grownBy w' (some sb)) (hs:sb<n0):OwnBlk n0 w' T cs f x:=by
 obtain ⟨g,hx,hb,hn⟩:=h
 exact ⟨g,hx,hb.grown hg (fun e=>by have:=sj e;omega),hn⟩
theorem Blk.unlike {w:World} {g g':Nat} {T T':TypeId} {cs cs':Array Value} (h:Blk w g T cs) (h':Blk w g' T' cs') (hT:T≠T'):g≠g':=by
 rintro rfl
 unfold Blk at h h'
 rw [h] at h'
 injection h' with h'
 injection h' with _ h' _
 exact hT h'
theorem OwnBlk.far2 {n0 g:Nat} {w:World} {T T':TypeId} {cs cs':Array Value} {f:Nat→Value} {x:Value} (h:OwnBlk n0 w T cs f x) (hb:Blk w g T' cs') (hT:T≠T') (i j:Nat) (u v:Value):OwnBlk n0 ((w.setCell ⟨g,i,none⟩ u).setCell ⟨g,j,none⟩ v) T cs f x:=by
 obtain ⟨g1,hx,h1,hn⟩:=h
 have hne:=h1.unlike hb hT
 exact ⟨g1,hx,(h1.far (p:=⟨g,i,none⟩) hne u).far (p:=⟨g,j,none⟩) hne v,hn⟩
theorem OwnBlk.far4 {n0 g:Nat} {w:World} {T T':TypeId} {cs cs':Array Value} {f:Nat→Value} {x:Value} (h:OwnBlk n0 w T cs f x) (hb:Blk w g T' cs') (hT:T≠T') (a b c d:Value):OwnBlk n0 ((((w.setCell ⟨g,0,none⟩ a).setCell ⟨g,1,none⟩ b).setCell ⟨g,2,none⟩ c).setCell ⟨g,3,none⟩ d) T cs f x:=by
 obtain ⟨g1,hx,h1,hn⟩:=h
 have hne:=h1.unlike hb hT
 exact ⟨g1,hx,(((h1.far (p:=⟨g,0,none⟩) hne a).far (p:=⟨g,1,none⟩) hne b).far (p:=⟨g,2,none⟩) hne c).far (p:=⟨g,3,none⟩) hne d,hn⟩
theorem str_bytes {X:World} {g:Nat} {b:Int} (h:Blk X g 5 #[.int .u8 b]):∃s:ByteArray,s.size≤10∧(convert 100 9 (.slice (some ⟨g,0,none⟩) 1 1)).run Tryz.prog X=.ok (.string s) X:=by
 refine ⟨ByteArray.empty.push (UInt8.ofNat b.toNat),by simp,?_⟩
 rw [run_convert_bytes_string X 100 9 5 _ _ _ Tryz.underlying100 Tryz.underlying5 Tryz.underlying9]
 exact run_bytesToString X _ _ _ [b] (run_loadCells_list X ⟨g,0,none⟩ [.int .u8 b] (fun j v hj=>by
  match j,hj with
  |0,hj=>obtain rfl:Value.int .u8 b=v:=by simpa using hj
         exact h.cell 0))
theorem str_cell {X:World} {g:Nat} {T:TypeId} {cs:Array Value} {k:Nat} (h:Blk X g T cs) (hk:k<cs.size) (hs:∀u∈cs.toList,∃s:ByteArray,s.size≤10∧u=.string s):∃s:ByteArray,s.size≤10∧X.cell? ⟨g,k,none⟩=some (.string s):=by
 obtain ⟨s,h1,e⟩:=hs (cs[k]) (by simp)
 exact ⟨s,h1,by rw [h.cell k,Array.getElem?_eq_getElem hk,e]⟩
section
set_option maxRecDepth 100000
set_option maxHeartbeats 4000000
theorem var_any (w:World) (sb c:Nat) (hc:c<312) (hs:SrcAt w sb) :
  Calls Tryz.prog 42 #[.int .i64 (c:Int)] w fun e w'=>(∃s,e=.returned (.string s))∧SrcAt w' sb∧w.grownBy w' (some sb):=by
 have HSRC:=Ω hs
 obtain ⟨k,hk,-,hp⟩:=pick2_n (c:Int) ⟨by omega,by omega⟩ 312 (by omega)
 have HPK:=Ω hp
 have HN0:Hid (sb<w.heap.size):=Ω hs.lt
 clear hp hs
 go_enter Tryz.func42,Tryz.ntmps42
 go_upto_region 2 with (go_at_call 60;refine (HPK.out _).mono ?_;rintro e W4 ⟨rfl,hw⟩;subst hw)
 refine wp_region_I (by kernel_rfl) (fun (listed:Array Bool) (a:Act) (w2:World)=>∃x2 x6 x7 x8 x9 x10 x11 x12 x13 x14 x15 x16 x17:Value,a=⟨#[.int .i64 (c:Int),undef,x2,.int .i64 (k:Int),.int .i64 (c:Int),.int .i64 (k:Int),x6,x7,x8,x9,x10,x11,x12,x13,x14,x15,x16,x17],[]⟩∧w.grownBy w2 (some sb)∧SrcAt w2 sb∧(listed.getD 0 false=true→x6=.int .i64 (k:Int))∧(listed.getD 1 false=true→∃m:Int,0≤m∧m<26∧x7=.int .i64 m)∧(listed.getD 2 false=true→∃m:Int,x8=.int .i64 m)∧(listed.getD 3 false=true→∃m:Int,x9=.int .u8 m)∧(listed.getD 4 false=true→∃m:Int,True∧OwnBlk w.heap.size w2 5 #[.int .u8 m] (fun g=>.slice (some ⟨g,0,none⟩) 1 1) x10)∧(listed.getD 5 false=true→∃s:ByteArray,s.size≤10∧x11=.string s)∧(listed.getD 6 false=true→OwnBlk w.heap.size w2 9 #[.string ⟨#[]⟩,.string ⟨#[49]⟩,.string ⟨#[95]⟩,.string ⟨#[90,57]⟩,.string ⟨#[105,102]⟩,.string ⟨#[120]⟩,.string ⟨#[48]⟩,.string ⟨#[97,97]⟩,.string ⟨#[105,110,116,105,110,116]⟩,.string ⟨#[113,55]⟩,.string ⟨#[66]⟩,.string ⟨#[48,48]⟩] (fun g=>.slice (some ⟨g,0,none⟩) 12 12) x12)∧(listed.getD 7 false=true→x13=.int .i64 (k:Int))∧(listed.getD 8 false=true→∃j:Nat,j<12∧x14=.int .i64 (j:Int))∧(listed.getD 9 false=true→∃j:Nat,j<12∧OwnBlk w.heap.size w2 9 #[.string ⟨#[]⟩,.string ⟨#[49]⟩,.string ⟨#[95]⟩,.string ⟨#[90,57]⟩,.string ⟨#[105,102]⟩,.string ⟨#[120]⟩,.string ⟨#[48]⟩,.string ⟨#[97,97]⟩,.string ⟨#[105,110,116,105,110,116]⟩,.string ⟨#[113,55]⟩,.string ⟨#[66]⟩,.string ⟨#[48,48]⟩] (fun g=>.pointer (some ⟨g,j,none⟩)) x15)∧(listed.getD 10 false=true→∃s:ByteArray,s.size≤10∧x16=.string s)∧(listed.getD 11 false=true→∃s,x17=.string s)∧(listed.getD 12 false=true→∃s,x2=.string s)) 13 rfl (by kernel_rfl) ?_ ?_ ?_
 ·intro hno
  exact ⟨_,_,_,_,_,_,_,_,_,_,_,_,_,rfl,grown_below' (Below.refl _ _).drew,HSRC.out.below (Below.refl _ _).drew,fun h=>(hno _ h).elim,fun h=>(hno _ h).elim,fun h=>(hno _ h).elim,fun h=>(hno _ h).elim,fun h=>(hno _ h).elim,fun h=>(hno _ h).elim,fun h=>(hno _ h).elim,fun h=>(hno _ h).elim,fun h=>(hno _ h).elim,fun h=>(hno _ h).elim,fun h=>(hno _ h).elim,fun h=>(hno _ h).elim,fun h=>(hno _ h).elim⟩
 ·refine StepsI.cons [] rfl (by kernel_rfl) ?_ (StepsI.cons [0] rfl (by kernel_rfl) ?_ (StepsI.cons [1] rfl (by kernel_rfl) ?_ (StepsI.cons [2] rfl (by kernel_rfl) ?_ (StepsI.cons [3] rfl (by kernel_rfl) ?_ (StepsI.cons [4] rfl (by kernel_rfl) ?_ (StepsI.cons [] rfl (by kernel_rfl) ?_ (StepsI.cons [] rfl (by kernel_rfl) ?_ (StepsI.cons [7] rfl (by kernel_rfl) ?_ (StepsI.cons [6,8] rfl (by kernel_rfl) ?_ (StepsI.cons [9] rfl (by kernel_rfl) ?_ (StepsI.cons [5,10] rfl (by kernel_rfl) ?_ (StepsI.cons [11,0,1,2,3,4,5,6,7,8,9,10,11] rfl (by kernel_rfl) ?_ StepsI.nil))))))))))))
  ·intro listed a w2 hI hd hself hun K hK
   obtain ⟨x2,x6,x7,x8,x9,x10,x11,x12,x13,x14,x15,x16,x17,rfl,hg,hsr,o0,o1,o2,o3,o4,o5,o6,o7,o8,o9,o10,o11,o12⟩:=hI
   have HGG:=Ω hg;have HSR:=Ω hsr;clear hg hsr
   have O0:=Ω o0
   have O1:=Ω o1
   have O2:=Ω o2
   have O3:=Ω o3
   have O4:=Ω o4
   have O5:=Ω o5
   have O6:=Ω o6
   have O7:=Ω o7
   have O8:=Ω o8
   have O9:=Ω o9
   have O10:=Ω o10
   have O11:=Ω o11
   have O12:=Ω o12
   clear o0 o1 o2 o3 o4 o5 o6 o7 o8 o9 o10 o11 o12
   have HD:=Ω hd;have HUN:=Ω hun;clear hd hself hun
   go_simp
   refine hK.out _ _ (fun hk=>⟨_,_,_,_,_,_,_,_,_,_,_,_,_,rfl,HGG.out,HSR.out,fun _=>rfl,fun h=>O1.out ((hk _ h).resolve_left (by decide)),fun h=>O2.out ((hk _ h).resolve_left (by decide)),fun h=>O3.out ((hk _ h).resolve_left (by decide)),fun h=>O4.out ((hk _ h).resolve_left (by decide)),fun h=>O5.out ((hk _ h).resolve_left (by decide)),fun h=>O6.out ((hk _ h).resolve_left (by decide)),fun h=>O7.out ((hk _ h).resolve_left (by decide)),fun h=>O8.out ((hk _ h).resolve_left (by decide)),fun h=>O9.out ((hk _ h).resolve_left (by decide)),fun h=>O10.out ((hk _ h).resolve_left (by decide)),fun h=>O11.out ((hk _ h).resolve_left (by decide)),fun h=>O12.out ((hk _ h).resolve_left (by decide))⟩)
  ·intro listed a w2 hI hd hself hun K hK
   obtain ⟨x2,x6,x7,x8,x9,x10,x11,x12,x13,x14,x15,x16,x17,rfl,hg,hsr,o0,o1,o2,o3,o4,o5,o6,o7,o8,o9,o10,o11,o12⟩:=hI
   have hx:=o0 (hd 0 (by simp))
   subst hx
   have HGG:=Ω hg;have HSR:=Ω hsr;clear hg hsr
   have O0:=Ω o0
   have O1:=Ω o1
   have O2:=Ω o2
   have O3:=Ω o3
   have O4:=Ω o4
   have O5:=Ω o5
   have O6:=Ω o6
   have O7:=Ω o7
   have O8:=Ω o8
   have O9:=Ω o9
   have O10:=Ω o10
   have O11:=Ω o11
   have O12:=Ω o12
   clear o0 o1 o2 o3 o4 o5 o6 o7 o8 o9 o10 o11 o12
   have HD:=Ω hd;have HUN:=Ω hun;clear hd hself hun
   go_simp
   refine hK.out _ _ (fun hk=>⟨_,_,_,_,_,_,_,_,_,_,_,_,_,rfl,HGG.out,HSR.out,fun h=>O0.out ((hk _ h).resolve_left (by decide)),fun _=>⟨(k:Int)%26,by omega,by omega,rfl⟩,fun h=>O2.out ((hk _ h).resolve_left (by decide)),fun h=>O3.out ((hk _ h).resolve_left (by decide)),fun h=>O4.out ((hk _ h).resolve_left (by decide)),fun h=>O5.out ((hk _ h).resolve_left (by decide)),fun h=>O6.out ((hk _ h).resolve_left (by decide)),fun h=>O7.out ((hk _ h).resolve_left (by decide)),fun h=>O8.out ((hk _ h).resolve_left (by decide)),fun h=>O9.out ((hk _ h).resolve_left (by decide)),fun h=>O10.out ((hk _ h).resolve_left (by decide)),fun h=>O11.out ((hk _ h).resolve_left (by decide)),fun h=>O12.out ((hk _ h).resolve_left (by decide))⟩)
  ·intro listed a w2 hI hd hself hun K hK
   obtain ⟨x2,x6,x7,x8,x9,x10,x11,x12,x13,x14,x15,x16,x17,rfl,hg,hsr,o0,o1,o2,o3,o4,o5,o6,o7,o8,o9,o10,o11,o12⟩:=hI
   obtain ⟨m,hm0,hm1,hx⟩:=o1 (hd 1 (by simp))
   subst hx
   have hwr:IntKind.i64.wrap (97+m)=97+m:=by rw [IntKind.wrap_i64];omega
   have HGG:=Ω hg;have HSR:=Ω hsr;clear hg hsr
   have O0:=Ω o0
   have O1:=Ω o1
   have O2:=Ω o2
   have O3:=Ω o3
   have O4:=Ω o4
   have O5:=Ω o5
   have O6:=Ω o6
   have O7:=Ω o7
   have O8:=Ω o8
   have O9:=Ω o9
   have O10:=Ω o10
   have O11:=Ω o11
   have O12:=Ω o12
   clear o0 o1 o2 o3 o4 o5 o6 o7 o8 o9 o10 o11 o12
   have HD:=Ω hd;have HUN:=Ω hun;clear hd hself hun
   go_simp
   refine hK.out _ _ (fun hk=>⟨_,_,_,_,_,_,_,_,_,_,_,_,_,rfl,HGG.out,HSR.out,fun h=>O0.out ((hk _ h).resolve_left (by decide)),fun h=>O1.out ((hk _ h).resolve_left (by decide)),fun _=>⟨_,rfl⟩,fun h=>O3.out ((hk _ h).resolve_left (by decide)),fun h=>O4.out ((hk _ h).resolve_left (by decide)),fun h=>O5.out ((hk _ h).resolve_left (by decide)),fun h=>O6.out ((hk _ h).resolve_left (by decide)),fun h=>O7.out ((hk _ h).resolve_left (by decide)),fun h=>O8.out ((hk _ h).resolve_left (by decide)),fun h=>O9.out ((hk _ h).resolve_left (by decide)),fun h=>O10.out ((hk _ h).resolve_left (by decide)),fun h=>O11.out ((hk _ h).resolve_left (by decide)),fun h=>O12.out ((hk _ h).resolve_left (by decide))⟩)
  ·intro listed a w2 hI hd hself hun K hK
   obtain ⟨x2,x6,x7,x8,x9,x10,x11,x12,x13,x14,x15,x16,x17,rfl,hg,hsr,o0,o1,o2,o3,o4,o5,o6,o7,o8,o9,o10,o11,o12⟩:=hI
   obtain ⟨m,hx⟩:=o2 (hd 2 (by simp))
   subst hx
   have HGG:=Ω hg;have HSR:=Ω hsr;clear hg hsr
   have O0:=Ω o0
   have O1:=Ω o1
   have O2:=Ω o2
   have O3:=Ω o3
   have O4:=Ω o4
   have O5:=Ω o5
   have O6:=Ω o6
   have O7:=Ω o7
   have O8:=Ω o8
   have O9:=Ω o9
   have O10:=Ω o10
   have O11:=Ω o11
   have O12:=Ω o12
   clear o0 o1 o2 o3 o4 o5 o6 o7 o8 o9 o10 o11 o12
   have HD:=Ω hd;have HUN:=Ω hun;clear hd hself hun
   go_simp
   refine hK.out _ _ (fun hk=>⟨_,_,_,_,_,_,_,_,_,_,_,_,_,rfl,HGG.out,HSR.out,fun h=>O0.out ((hk _ h).resolve_left (by decide)),fun h=>O1.out ((hk _ h).resolve_left (by decide)),fun h=>O2.out ((hk _ h).resolve_left (by decide)),fun _=>⟨_,rfl⟩,fun h=>O4.out ((hk _ h).resolve_left (by decide)),fun h=>O5.out ((hk _ h).resolve_left (by decide)),fun h=>O6.out ((hk _ h).resolve_left (by decide)),fun h=>O7.out ((hk _ h).resolve_left (by decide)),fun h=>O8.out ((hk _ h).resolve_left (by decide)),fun h=>O9.out ((hk _ h).resolve_left (by decide)),fun h=>O10.out ((hk _ h).resolve_left (by decide)),fun h=>O11.out ((hk _ h).resolve_left (by decide)),fun h=>O12.out ((hk _ h).resolve_left (by decide))⟩)
  ·intro listed a w2 hI hd hself hun K hK
   obtain ⟨x2,x6,x7,x8,x9,x10,x11,x12,x13,x14,x15,x16,x17,rfl,hg,hsr,o0,o1,o2,o3,o4,o5,o6,o7,o8,o9,o10,o11,o12⟩:=hI
   obtain ⟨m,hx⟩:=o3 (hd 3 (by simp))
   subst hx
   have HGG:=Ω hg;have HSR:=Ω hsr;clear hg hsr
   have O0:=Ω o0
   have O1:=Ω o1
   have O2:=Ω o2
   have O3:=Ω o3
   have O4:=Ω o4
   have O5:=Ω o5
   have O6:=Ω o6
   have O7:=Ω o7
   have O8:=Ω o8
   have O9:=Ω o9
   have O10:=Ω o10
   have O11:=Ω o11
   have O12:=Ω o12
   clear o0 o1 o2 o3 o4 o5 o6 o7 o8 o9 o10 o11 o12
   have HD:=Ω hd;have HUN:=Ω hun;clear hd hself hun
   go_simp
   have HGN:Hid (w2.grownBy (w2.alloc (.cells #[.int .u8 m] 5)) (some sb)):=Ω (World.grownBy_alloc _ _ _)
   refine hK.out _ _ (fun hk=>⟨_,_,_,_,_,_,_,_,_,_,_,_,_,rfl,HGG.out.trans HGN.out,HSR.out.below (below1 _ _),fun h=>O0.out ((hk _ h).resolve_left (by decide)),fun h=>O1.out ((hk _ h).resolve_left (by decide)),fun h=>O2.out ((hk _ h).resolve_left (by decide)),fun h=>O3.out ((hk _ h).resolve_left (by decide)),fun _=>⟨m,trivial,w2.heap.size,rfl,Blk.new _ _ _,HGG.out.size⟩,fun h=>O5.out ((hk _ h).resolve_left (by decide)),fun h=>OwnBlk.grown (O6.out ((hk _ h).resolve_left (by decide))) HGN.out HN0.out,fun h=>O7.out ((hk _ h).resolve_left (by decide)),fun h=>O8.out ((hk _ h).resolve_left (by decide)),fun h=>(have q:=(O9.out ((hk _ h).resolve_left (by decide)));q.imp fun k hk2=>⟨hk2.1,hk2.2.grown HGN.out HN0.out⟩),fun h=>O10.out ((hk _ h).resolve_left (by decide)),fun h=>O11.out ((hk _ h).resolve_left (by decide)),fun h=>O12.out ((hk _ h).resolve_left (by decide))⟩)
  ·intro listed a w2 hI hd hself hun K hK
   obtain ⟨x2,x6,x7,x8,x9,x10,x11,x12,x13,x14,x15,x16,x17,rfl,hg,hsr,o0,o1,o2,o3,o4,o5,o6,o7,o8,o9,o10,o11,o12⟩:=hI
   obtain ⟨m,-,g,hx,hb,hn⟩:=o4 (hd 4 (by simp))
   subst hx
   obtain ⟨s5,h5,hs5⟩:=str_bytes hb
   clear hb hn
   have HGG:=Ω hg;have HSR:=Ω hsr;clear hg hsr
   have O0:=Ω o0
   have O1:=Ω o1
   have O2:=Ω o2
   have O3:=Ω o3
   have O4:=Ω o4
   have O5:=Ω o5
   have O6:=Ω o6
   have O7:=Ω o7
   have O8:=Ω o8
   have O9:=Ω o9
   have O10:=Ω o10
   have O11:=Ω o11
   have O12:=Ω o12
   clear o0 o1 o2 o3 o4 o5 o6 o7 o8 o9 o10 o11 o12
   have HD:=Ω hd;have HUN:=Ω hun;clear hd hself hun
   go_simp
   refine hK.out _ _ (fun hk=>⟨_,_,_,_,_,_,_,_,_,_,_,_,_,rfl,HGG.out,HSR.out,fun h=>O0.out ((hk _ h).resolve_left (by decide)),fun h=>O1.out ((hk _ h).resolve_left (by decide)),fun h=>O2.out ((hk _ h).resolve_left (by decide)),fun h=>O3.out ((hk _ h).resolve_left (by decide)),fun h=>O4.out ((hk _ h).resolve_left (by decide)),fun _=>⟨s5,h5,rfl⟩,fun h=>O6.out ((hk _ h).resolve_left (by decide)),fun h=>O7.out ((hk _ h).resolve_left (by decide)),fun h=>O8.out ((hk _ h).resolve_left (by decide)),fun h=>O9.out ((hk _ h).resolve_left (by decide)),fun h=>O10.out ((hk _ h).resolve_left (by decide)),fun h=>O11.out ((hk _ h).resolve_left (by decide)),fun h=>O12.out ((hk _ h).resolve_left (by decide))⟩)
  ·intro listed a w2 hI hd hself hun K hK
   obtain ⟨x2,x6,x7,x8,x9,x10,x11,x12,x13,x14,x15,x16,x17,rfl,hg,hsr,o0,o1,o2,o3,o4,o5,o6,o7,o8,o9,o10,o11,o12⟩:=hI
   have HGG:=Ω hg;have HSR:=Ω hsr;clear hg hsr
   have O0:=Ω o0
   have O1:=Ω o1
   have O2:=Ω o2
   have O3:=Ω o3
   have O4:=Ω o4
   have O5:=Ω o5
   have O6:=Ω o6
   have O7:=Ω o7
   have O8:=Ω o8
   have O9:=Ω o9
   have O10:=Ω o10
   have O11:=Ω o11
   have O12:=Ω o12
   clear o0 o1 o2 o3 o4 o5 o6 o7 o8 o9 o10 o11 o12
   have HD:=Ω hd;have HUN:=Ω hun;clear hd hself hun
   go_simp
   have HGN:Hid (w2.grownBy (w2.alloc (.cells #[.string ⟨#[]⟩,.string ⟨#[49]⟩,.string ⟨#[95]⟩,.string ⟨#[90,57]⟩,.string ⟨#[105,102]⟩,.string ⟨#[120]⟩,.string ⟨#[48]⟩,.string ⟨#[97,97]⟩,.string ⟨#[105,110,116,105,110,116]⟩,.string ⟨#[113,55]⟩,.string ⟨#[66]⟩,.string ⟨#[48,48]⟩] 9)) (some sb)):=Ω (World.grownBy_alloc _ _ _)
   refine hK.out _ _ (fun hk=>⟨_,_,_,_,_,_,_,_,_,_,_,_,_,rfl,HGG.out.trans HGN.out,HSR.out.below (below1 _ _),fun h=>O0.out ((hk _ h).resolve_left (by decide)),fun h=>O1.out ((hk _ h).resolve_left (by decide)),fun h=>O2.out ((hk _ h).resolve_left (by decide)),fun h=>O3.out ((hk _ h).resolve_left (by decide)),fun h=>(have q:=(O4.out ((hk _ h).resolve_left (by decide)));q.imp fun k hk2=>⟨hk2.1,hk2.2.grown HGN.out HN0.out⟩),fun h=>O5.out ((hk _ h).resolve_left (by decide)),fun _=>⟨w2.heap.size,rfl,Blk.new _ _ _,HGG.out.size⟩,fun h=>O7.out ((hk _ h).resolve_left (by decide)),fun h=>O8.out ((hk _ h).resolve_left (by decide)),fun h=>(have q:=(O9.out ((hk _ h).resolve_left (by decide)));q.imp fun k hk2=>⟨hk2.1,hk2.2.grown HGN.out HN0.out⟩),fun h=>O10.out ((hk _ h).resolve_left (by decide)),fun h=>O11.out ((hk _ h).resolve_left (by decide)),fun h=>O12.out ((hk _ h).resolve_left (by decide))⟩)
  ·intro listed a w2 hI hd hself hun K hK
   obtain ⟨x2,x6,x7,x8,x9,x10,x11,x12,x13,x14,x15,x16,x17,rfl,hg,hsr,o0,o1,o2,o3,o4,o5,o6,o7,o8,o9,o10,o11,o12⟩:=hI
   have HGG:=Ω hg;have HSR:=Ω hsr;clear hg hsr
   have O0:=Ω o0
   have O1:=Ω o1
   have O2:=Ω o2
   have O3:=Ω o3
   have O4:=Ω o4
   have O5:=Ω o5
   have O6:=Ω o6
   have O7:=Ω o7
   have O8:=Ω o8
   have O9:=Ω o9
   have O10:=Ω o10
   have O11:=Ω o11
   have O12:=Ω o12
   clear o0 o1 o2 o3 o4 o5 o6 o7 o8 o9 o10 o11 o12
   have HD:=Ω hd;have HUN:=Ω hun;clear hd hself hun
   go_simp
   refine hK.out _ _ (fun hk=>⟨_,_,_,_,_,_,_,_,_,_,_,_,_,rfl,HGG.out,HSR.out,fun h=>O0.out ((hk _ h).resolve_left (by decide)),fun h=>O1.out ((hk _ h).resolve_left (by decide)),fun h=>O2.out ((hk _ h).resolve_left (by decide)),fun h=>O3.out ((hk _ h).resolve_left (by decide)),fun h=>O4.out ((hk _ h).resolve_left (by decide)),fun h=>O5.out ((hk _ h).resolve_left (by decide)),fun h=>O6.out ((hk _ h).resolve_left (by decide)),fun _=>rfl,fun h=>O8.out ((hk _ h).resolve_left (by decide)),fun h=>O9.out ((hk _ h).resolve_left (by decide)),fun h=>O10.out ((hk _ h).resolve_left (by decide)),fun h=>O11.out ((hk _ h).resolve_left (by decide)),fun h=>O12.out ((hk _ h).resolve_left (by decide))⟩)
  ·intro listed a w2 hI hd hself hun K hK
   obtain ⟨x2,x6,x7,x8,x9,x10,x11,x12,x13,x14,x15,x16,x17,rfl,hg,hsr,o0,o1,o2,o3,o4,o5,o6,o7,o8,o9,o10,o11,o12⟩:=hI
   have hx:=o7 (hd 7 (by simp))
   subst hx
   obtain ⟨j,hj,hjk⟩:∃j:Nat,j<12∧(k:Int) / 26=(j:Int):=⟨k / 26,by omega,by omega⟩
   have hwr:IntKind.i64.wrap ((k:Int) / 26)=(j:Int):=by rw [IntKind.wrap_i64];omega
   clear hjk
   have HGG:=Ω hg;have HSR:=Ω hsr;clear hg hsr
   have O0:=Ω o0
   have O1:=Ω o1
   have O2:=Ω o2
   have O3:=Ω o3
   have O4:=Ω o4
   have O5:=Ω o5
   have O6:=Ω o6
   have O7:=Ω o7
   have O8:=Ω o8
   have O9:=Ω o9
   have O10:=Ω o10
   have O11:=Ω o11
   have O12:=Ω o12
   clear o0 o1 o2 o3 o4 o5 o6 o7 o8 o9 o10 o11 o12
   have HD:=Ω hd;have HUN:=Ω hun;clear hd hself hun
   go_simp
   refine hK.out _ _ (fun hk=>⟨_,_,_,_,_,_,_,_,_,_,_,_,_,rfl,HGG.out,HSR.out,fun h=>O0.out ((hk _ h).resolve_left (by decide)),fun h=>O1.out ((hk _ h).resolve_left (by decide)),fun h=>O2.out ((hk _ h).resolve_left (by decide)),fun h=>O3.out ((hk _ h).resolve_left (by decide)),fun h=>O4.out ((hk _ h).resolve_left (by decide)),fun h=>O5.out ((hk _ h).resolve_left (by decide)),fun h=>O6.out ((hk _ h).resolve_left (by decide)),fun h=>O7.out ((hk _ h).resolve_left (by decide)),fun _=>⟨j,hj,rfl⟩,fun h=>O9.out ((hk _ h).resolve_left (by decide)),fun h=>O10.out ((hk _ h).resolve_left (by decide)),fun h=>O11.out ((hk _ h).resolve_left (by decide)),fun h=>O12.out ((hk _ h).resolve_left (by decide))⟩)
  ·intro listed a w2 hI hd hself hun K hK
   obtain ⟨x2,x6,x7,x8,x9,x10,x11,x12,x13,x14,x15,x16,x17,rfl,hg,hsr,o0,o1,o2,o3,o4,o5,o6,o7,o8,o9,o10,o11,o12⟩:=hI
   obtain ⟨g,hx,hb,hn⟩:=o6 (hd 6 (by simp))
   obtain ⟨j,hj,hy⟩:=o8 (hd 8 (by simp))
   subst hx hy
   have HB:=Ω (And.intro hb hn)
   clear hb hn
   have hi1:(j:Int)<12:=by omega
   have hi2:¬(j:Int)<0:=by omega
   have HGG:=Ω hg;have HSR:=Ω hsr;clear hg hsr
   have O0:=Ω o0
   have O1:=Ω o1
   have O2:=Ω o2
   have O3:=Ω o3
   have O4:=Ω o4
   have O5:=Ω o5
   have O6:=Ω o6
   have O7:=Ω o7
   have O8:=Ω o8
   have O9:=Ω o9
   have O10:=Ω o10
   have O11:=Ω o11
   have O12:=Ω o12
   clear o0 o1 o2 o3 o4 o5 o6 o7 o8 o9 o10 o11 o12
   have HD:=Ω hd;have HUN:=Ω hun;clear hd hself hun
   go_simp
   refine hK.out _ _ (fun hk=>⟨_,_,_,_,_,_,_,_,_,_,_,_,_,rfl,HGG.out,HSR.out,fun h=>O0.out ((hk _ h).resolve_left (by decide)),fun h=>O1.out ((hk _ h).resolve_left (by decide)),fun h=>O2.out ((hk _ h).resolve_left (by decide)),fun h=>O3.out ((hk _ h).resolve_left (by decide)),fun h=>O4.out ((hk _ h).resolve_left (by decide)),fun h=>O5.out ((hk _ h).resolve_left (by decide)),fun h=>O6.out ((hk _ h).resolve_left (by decide)),fun h=>O7.out ((hk _ h).resolve_left (by decide)),fun h=>O8.out ((hk _ h).resolve_left (by decide)),fun _=>⟨j,hj,g,rfl,HB.out.1,HB.out.2⟩,fun h=>O10.out ((hk _ h).resolve_left (by decide)),fun h=>O11.out ((hk _ h).resolve_left (by decide)),fun h=>O12.out ((hk _ h).resolve_left (by decide))⟩)
  ·intro listed a w2 hI hd hself hun K hK
   obtain ⟨x2,x6,x7,x8,x9,x10,x11,x12,x13,x14,x15,x16,x17,rfl,hg,hsr,o0,o1,o2,o3,o4,o5,o6,o7,o8,o9,o10,o11,o12⟩:=hI
   obtain ⟨j,hj,g,hx,hb,hn⟩:=o9 (hd 9 (by simp))
   subst hx
   obtain ⟨s10,h10,hcl⟩:=str_cell (k:=j) hb (by show j<12;omega) (by intro u hu;simp at hu;rcases hu with rfl|rfl|rfl|rfl|rfl|rfl|rfl|rfl|rfl|rfl|rfl|rfl <;> exact ⟨_,by decide,rfl⟩)
   clear hb hn
   have HGG:=Ω hg;have HSR:=Ω hsr;clear hg hsr
   have O0:=Ω o0
   have O1:=Ω o1
   have O2:=Ω o2
   have O3:=Ω o3
   have O4:=Ω o4
   have O5:=Ω o5
   have O6:=Ω o6
   have O7:=Ω o7
   have O8:=Ω o8
   have O9:=Ω o9
   have O10:=Ω o10
   have O11:=Ω o11
   have O12:=Ω o12
   clear o0 o1 o2 o3 o4 o5 o6 o7 o8 o9 o10 o11 o12
   have HD:=Ω hd;have HUN:=Ω hun;clear hd hself hun
   go_simp
   refine hK.out _ _ (fun hk=>⟨_,_,_,_,_,_,_,_,_,_,_,_,_,rfl,HGG.out,HSR.out,fun h=>O0.out ((hk _ h).resolve_left (by decide)),fun h=>O1.out ((hk _ h).resolve_left (by decide)),fun h=>O2.out ((hk _ h).resolve_left (by decide)),fun h=>O3.out ((hk _ h).resolve_left (by decide)),fun h=>O4.out ((hk _ h).resolve_left (by decide)),fun h=>O5.out ((hk _ h).resolve_left (by decide)),fun h=>O6.out ((hk _ h).resolve_left (by decide)),fun h=>O7.out ((hk _ h).resolve_left (by decide)),fun h=>O8.out ((hk _ h).resolve_left (by decide)),fun h=>O9.out ((hk _ h).resolve_left (by decide)),fun _=>⟨s10,h10,rfl⟩,fun h=>O11.out ((hk _ h).resolve_left (by decide)),fun h=>O12.out ((hk _ h).resolve_left (by decide))⟩)
  ·intro listed a w2 hI hd hself hun K hK
   obtain ⟨x2,x6,x7,x8,x9,x10,x11,x12,x13,x14,x15,x16,x17,rfl,hg,hsr,o0,o1,o2,o3,o4,o5,o6,o7,o8,o9,o10,o11,o12⟩:=hI
   obtain ⟨s5,h5,hx⟩:=o5 (hd 5 (by simp))
   obtain ⟨s10,h10,hy⟩:=o10 (hd 10 (by simp))
   have hnl:¬9223372036854775807<s5.size+s10.size:=by omega
   subst hx hy
   have HGG:=Ω hg;have HSR:=Ω hsr;clear hg hsr
   have O0:=Ω o0
   have O1:=Ω o1
   have O2:=Ω o2
   have O3:=Ω o3
   have O4:=Ω o4
   have O5:=Ω o5
   have O6:=Ω o6
   have O7:=Ω o7
   have O8:=Ω o8
   have O9:=Ω o9
   have O10:=Ω o10
   have O11:=Ω o11
   have O12:=Ω o12
   clear o0 o1 o2 o3 o4 o5 o6 o7 o8 o9 o10 o11 o12
   have HD:=Ω hd;have HUN:=Ω hun;clear hd hself hun
   go_simp
   refine hK.out _ _ (fun hk=>⟨_,_,_,_,_,_,_,_,_,_,_,_,_,rfl,HGG.out,HSR.out,fun h=>O0.out ((hk _ h).resolve_left (by decide)),fun h=>O1.out ((hk _ h).resolve_left (by decide)),fun h=>O2.out ((hk _ h).resolve_left (by decide)),fun h=>O3.out ((hk _ h).resolve_left (by decide)),fun h=>O4.out ((hk _ h).resolve_left (by decide)),fun h=>O5.out ((hk _ h).resolve_left (by decide)),fun h=>O6.out ((hk _ h).resolve_left (by decide)),fun h=>O7.out ((hk _ h).resolve_left (by decide)),fun h=>O8.out ((hk _ h).resolve_left (by decide)),fun h=>O9.out ((hk _ h).resolve_left (by decide)),fun h=>O10.out ((hk _ h).resolve_left (by decide)),fun _=>⟨s5++s10,rfl⟩,fun h=>O12.out ((hk _ h).resolve_left (by decide))⟩)
  ·intro listed a w2 hI hd hself hun K hK
   obtain ⟨x2,x6,x7,x8,x9,x10,x11,x12,x13,x14,x15,x16,x17,rfl,hg,hsr,o0,o1,o2,o3,o4,o5,o6,o7,o8,o9,o10,o11,o12⟩:=hI
   obtain ⟨s11,hx⟩:=o11 (hd 11 (by simp))
   subst hx
   have HGG:=Ω hg;have HSR:=Ω hsr;clear hg hsr
   have O0:=Ω o0
   have O1:=Ω o1
   have O2:=Ω o2
   have O3:=Ω o3
   have O4:=Ω o4
   have O5:=Ω o5
   have O6:=Ω o6
   have O7:=Ω o7
   have O8:=Ω o8
   have O9:=Ω o9
   have O10:=Ω o10
   have O11:=Ω o11
   have O12:=Ω o12
   clear o0 o1 o2 o3 o4 o5 o6 o7 o8 o9 o10 o11 o12
   have HD:=Ω hd;have HUN:=Ω hun;clear hd hself hun
   go_simp
   refine hK.out _ _ (fun hk=>⟨_,_,_,_,_,_,_,_,_,_,_,_,_,rfl,HGG.out,HSR.out,fun h=>O0.out ((hk _ h).resolve_left (by decide)),fun h=>O1.out ((hk _ h).resolve_left (by decide)),fun h=>O2.out ((hk _ h).resolve_left (by decide)),fun h=>O3.out ((hk _ h).resolve_left (by decide)),fun h=>O4.out ((hk _ h).resolve_left (by decide)),fun h=>O5.out ((hk _ h).resolve_left (by decide)),fun h=>O6.out ((hk _ h).resolve_left (by decide)),fun h=>O7.out ((hk _ h).resolve_left (by decide)),fun h=>O8.out ((hk _ h).resolve_left (by decide)),fun h=>O9.out ((hk _ h).resolve_left (by decide)),fun h=>O10.out ((hk _ h).resolve_left (by decide)),fun h=>O11.out ((hk _ h).resolve_left (by decide)),fun _=>⟨_,rfl⟩⟩)
 ·intro listed a w2 hI hall
  obtain ⟨x2,x6,x7,x8,x9,x10,x11,x12,x13,x14,x15,x16,x17,rfl,hg,hsr,o0,o1,o2,o3,o4,o5,o6,o7,o8,o9,o10,o11,o12⟩:=hI
  obtain ⟨s12,hx⟩:=o12 (hall 12 (by omega))
  subst hx
  have HFI:=Ω (And.intro hsr hg)
  clear hsr hg o0 o1 o2 o3 o4 o5 o6 o7 o8 o9 o10 o11
  go_wp2
  go_ret
  exact ⟨⟨_,rfl⟩,HFI.out.1,HFI.out.2⟩
end
end Go.Proofs.YtmignlclfbaifaaGreat
namespace Go.Proofs.YtmignlclfbaifaaGreat
open Go.RowKit
def RArrN (cs:List Value) (x:ByteArray):Prop:=∃sz:Int,cs=[.string x,.int .i64 sz]
def RFunN (cs:List Value) (x:ByteArray × Nat):Prop:=∃(Ap:Option Addr) (cp:Nat),cs=[.string x.1,.slice Ap x.2 cp,.slice none 0 0,.slice none 0 0]
structure ScOk (c:Scp):Prop where
 funs:∀x∈c.funs,x.2≤6
 lv:c.vars.length≤400
 la:c.arrs.length≤400
 lf:c.funs.length≤400
def okN (_:Scp) (_:ByteArray):Prop:=True
def okF (_:Scp) (_:ByteArray) (n:Nat):Prop:=n≤6
structure ScAt (w:World) (sb:Nat) (c:Scp) (Av Aa Af:Option Addr) (cv ca cf:Nat):Prop where
 vars:SlR w (fun b=>b<w.heap.size∧b≠sb) 1 RStr (.slice Av c.vars.length cv) c.vars
 arrs:SlR w (fun b=>b<w.heap.size∧b≠sb) 2 RArrN (.slice Aa c.arrs.length ca) c.arrs
 funs:SlR w (fun b=>b<w.heap.size∧b≠sb) 4 RFunN (.slice Af c.funs.length cf) c.funs
theorem ScAt.grown {w w':World} {sb:Nat} {c:Scp} {Av Aa Af:Option Addr} {cv ca cf:Nat} (h:ScAt w sb c Av Aa Af cv ca cf) (hg:w.grownBy w' (some sb)):ScAt w' sb c Av Aa Af cv ca cf:=
 have up:∀b,(b<w.heap.size∧b≠sb)→(b<w'.heap.size∧b≠sb):=fun _ h=>⟨ltle h.1 hg.size,h.2⟩
 have kp:Keeps (fun b=>b<w.heap.size∧b≠sb) w w':=fun b h=>hg.block b h.1 (fun e=>h.2 (sj e))
 ⟨h.vars.imp up kp fun _ _ _ r=>r,h.arrs.imp up kp fun _ _ _ r=>r,h.funs.imp up kp fun _ _ _ r=>r⟩
section
set_option maxHeartbeats 4000000
variable {w:World} {sb:Nat} {c:Scp} {Av Aa Af:Option Addr} {cv ca cf:Nat}
theorem gname_0 (hs:SrcAt w sb) (l:List ByteArray) (Al:Option Addr) (cl:Nat) (hl:SlR w (fun b=>b<w.heap.size∧b≠sb) 1 RStr (.slice Al l.length cl) l) (hn:0<l.length) (v1 v2 v3 v4:Value) :
  Calls Tryz.prog 40 #[.agg #[v1,v2,v3,.bool false,v4],.pointer (some ⟨sb,0,none⟩),.slice Al l.length cl] w fun e w'=>(∃s,s∈l∧e=.returned (.string s))∧SrcAt w' sb∧w.grownBy w' (some sb):=by
 obtain ⟨b,off,c',hform,_,hlm,hbl,hel⟩:=hl.form hn
 obtain ⟨rfl,rfl⟩:Al=some ⟨b,off,none⟩∧cl=c':=by injection hform with h1 _ h2;exact ⟨h1,h2⟩
 have HEL:Hid (∀(k:Nat) (hk:k<l.length) (X:World),w.grownBy X (some sb)→X.cell? ⟨b,off+k,none⟩=some (.string l[k])):=Ω (fun k hk X hX=>by
  obtain ⟨cs,_,hcs,hcell⟩:=hel k hk
  obtain rfl:cs=[.string l[k]]:=hcs
  have h:=(hcell.keep (hX.block b hbl.1 (fun e=>hbl.2 (sj e)))).at_ (j:=0) rfl
  simpa using h)
 have HSRC:=Ω hs
 have hlen:=hl.len_le
 unfold maxLen at hlen
 clear hl hel hform hs hbl
 have dn:((l.length:Int) == 0)=false:=by rw [beq_dec];exact dF (by omega)
 have BA:Hid (∀o,Below w.heap.size w (w.alloc o)):=Ω (fun o=>below1 w o)
 go_enter Tryz.func40,Tryz.ntmps40
 go_wp2_with (go_at_call 21;refine (next_any _ sb l.length hn (HSRC.out.below (BA.out _))).mono ?_;rintro e w1 ⟨⟨k,hk,rfl⟩,hs1,hg1⟩;have HG1:Hid (w.grownBy w1 (some sb)):=Ω ((grown_below' (row:=some sb) (BA.out _)).trans hg1);have ck:=HEL.out k hk w1 HG1.out;have HS1:=Ω hs1;obtain ⟨nm,hnm⟩:∃nm,nm=l[k]:=⟨_,rfl⟩;rw [←hnm] at ck;have HNM:=Ω hnm;clear hs1 hg1 hnm)
 go_ret
 exact ⟨⟨nm,by rw [HNM.out];exact List.getElem_mem _,rfl⟩,HS1.out,HG1.out⟩
theorem garray_0 (hs:SrcAt w sb) (hc:ScAt w sb c Av Aa Af cv ca cf) (hn:0<c.arrs.length) (v1 v3 v4:Value) :
  Calls Tryz.prog 25 #[.agg #[v1,.slice Aa c.arrs.length ca,v3,.bool false,v4],.pointer (some ⟨sb,0,none⟩)] w fun e w'=>(∃s sz,s∈c.arrs∧e=.returned (.agg #[.string s,.int .i64 sz]))∧SrcAt w' sb∧w.grownBy w' (some sb):=by
 obtain ⟨b,off,c',hform,_,hlm,hbl,hel⟩:=hc.arrs.form hn
 obtain ⟨rfl,rfl⟩:Aa=some ⟨b,off,none⟩∧ca=c':=by injection hform with h1 _ h2;exact ⟨h1,h2⟩
 have hlen:=hc.arrs.len_le
 unfold maxLen at hlen
 have dn:((c.arrs.length:Int) == 0)=false:=by rw [beq_dec];exact dF (by omega)
 have HW0:=Ω (fun (X:World) (hX:w.grownBy X (some sb)) (k:Nat) (hk:k<c.arrs.length)=>(show ∃sz,X.cell? ⟨b,off+k*2,none⟩=some (.string c.arrs[k])∧X.cell? ⟨b,off+k*2+1,none⟩=some (.int .i64 sz) from by
  obtain ⟨cs,_,⟨sz,rfl⟩,hcell⟩:=hel k hk
  have hk2:=hcell.keep (hX.block b hbl.1 (fun e=>hbl.2 (sj e)))
  exact ⟨sz,by have h:=hk2.at_ (j:=0) rfl;simpa using h,by have h:=hk2.at_ (j:=1) rfl;simpa using h⟩))
 have HSS:=Ω hs
 have hsl:=hs.lt
 clear hel hform hs hc hbl
 go_enter Tryz.func25,Tryz.ntmps25
 go_upto_region 3 with fail
 refine wp_world ?_
 intro W hW
 have hB:Below w.heap.size w W:=by rw [←hW];exact below2 _ _ _
 have hG:Blk W w.heap.size 61 #[v1,.slice (some ⟨b,off,none⟩) c.arrs.length ca,v3,.bool false,v4]:=by rw [←hW];exact (Blk.new _ _ _).alloc _
 have hR:Blk W (w.heap.size+1) 53 #[.string ⟨#[]⟩,.int .i64 0]:=by rw [←hW];exact Blk.new_at _ _ _ (by simp)
 have HEL:Hid (∀(k:Nat) (hk:k<c.arrs.length) (X:World),W.grownBy X (some sb)→∃sz,X.cell? ⟨b,off+k*2,none⟩=some (.string c.arrs[k])∧X.cell? ⟨b,off+k*2+1,none⟩=some (.int .i64 sz)):=Ω (fun k hk X hX=>HW0.out X ((grown_below' (row:=some sb) hB).trans hX) k hk)
 have HRES:Hid (∀X,W.grownBy X (some sb)→Blk X (w.heap.size+1) 53 #[.string ⟨#[]⟩,.int .i64 0]):=Ω (fun X hX=>hR.grown hX (fun e=>by have:=sj e;omega))
 have SO:Hid (∀X,W.grownBy X (some sb)→(fun X=>X.cell? ⟨w.heap.size,1,none⟩=some (.slice (some ⟨b,off,none⟩) c.arrs.length ca)) X):=Ω (fun X hX=>(hG.grown hX (fun e=>by have:=sj e;omega)).cell 1)
 have HSRC:Hid (SrcAt W.drew sb):=Ω ((HSS.out.below hB).below (Below.refl _ _).drew)
 have HG0:Hid (W.grownBy W.drew (some sb)):=Ω (grown_below' (Below.refl _ _).drew)
 have HB:=Ω hB
 clear hW hB hG hR HW0
 refine wp_region_L (by kernel_rfl) 9 (fun X=>X.cell? ⟨w.heap.size,1,none⟩=some (.slice (some ⟨b,off,none⟩) c.arrs.length ca)) (SO.out _ HG0.out) (fun hHeld=>?_)
 have HS0:=Ω hHeld
 clear hHeld
 change wpAnyL _ _ _ _ _ 9 10 (Array.replicate 10 false) _ _
 obtain ⟨X0,hX0⟩:∃X0,W.drew=X0:=⟨_,rfl⟩
 rw [hX0] at HG0 HS0 HSRC ⊢
 clear hX0
 refine tj 0 20 (.pointer (some ⟨w.heap.size,1,none⟩)) HS0.out rfl rfl ?_
 try simp only [sA,sB,sC]
 refine tS 1 21 (.slice (some ⟨b,off,none⟩) c.arrs.length ca) [9] HS0.out rfl rfl ?_ ?_
 ·intro w2 hSw;obtain g0:=hSw;go_simp
 try simp only [sA,sB,sC]
 refine tj 2 22 (.pointer (some ⟨sb,0,none⟩)) HS0.out rfl rfl ?_
 try simp only [sA,sB,sC]
 refine tj 3 23 (.pointer (some ⟨w.heap.size,1,none⟩)) HS0.out rfl rfl ?_
 try simp only [sA,sB,sC]
 refine tS 4 24 (.slice (some ⟨b,off,none⟩) c.arrs.length ca) [9] HS0.out rfl rfl ?_ ?_
 ·intro w2 hSw;obtain g0:=hSw;go_simp
 try simp only [sA,sB,sC]
 refine tj 5 25 (.int .i64 (c.arrs.length:Int)) HS0.out rfl rfl ?_
 try simp only [sA,sB,sC]
 refine wpAnyL_ready (rs:=[6]) (by kernel_rfl) (by simp) ?_
 refine AllReadyL.cons rfl (fun K hK=>?_) AllReadyL.nil
 go_simp
 refine (next_any X0 sb c.arrs.length hn HSRC.out).mono ?_
 rintro e X1 ⟨⟨k,hk,rfl⟩,hs1,hg1⟩
 have HG1:Hid (W.grownBy X1 (some sb)):=Ω (HG0.out.trans hg1)
 have HS1_:=Ω hs1
 obtain ⟨sz,c0,c1⟩:=HEL.out k hk X1 HG1.out
 have r0:X1.cell? ⟨w.heap.size+1,0,none⟩=some (.string ⟨#[]⟩):=(HRES.out X1 HG1.out).cell 0
 have r1:X1.cell? ⟨w.heap.size+1,1,none⟩=some (.int .i64 0):=(HRES.out X1 HG1.out).cell 1
 have f0:=(HRES.out X1 HG1.out).frozen 0
 have f1:=(HRES.out X1 HG1.out).frozen 1
 obtain ⟨nm,hnm⟩:∃nm,nm=c.arrs[k]:=⟨_,rfl⟩
 rw [←hnm] at c0
 have HNM:=Ω hnm
 clear hg1 hs1 hnm
 refine hK.out _ _ (SO.out _ HG1.out) (fun hHeld=>?_)
 have HS1:=Ω hHeld
 clear hK K hHeld
 try simp only [sA,sB,sC]
 refine tj 7 27 (.pointer (some ⟨b,off+k*2,none⟩)) HS1.out rfl rfl ?_
 try simp only [sA,sB,sC]
 refine wpAnyL_ready (rs:=[8]) (by kernel_rfl) (by simp) ?_
 refine AllReadyL.cons rfl (fun K hK=>?_) AllReadyL.nil
 go_simp
 refine hK.out _ _ (SO.out _ HG1.out) (fun hHeld=>?_)
 have HS2:=Ω hHeld
 clear hK K hHeld
 try simp only [sA,sB,sC]
 refine wpAnyL_ready (rs:=[9]) (by kernel_rfl) (by simp) ?_
 refine AllReadyL.last rfl (by kernel_rfl) (fun K hK=>?_)
 go_simp
 refine hK.out _ _ ?_
 clear hK K
 try simp only [sA,sB,sC]
 refine wpAnyL_done (by kernel_rfl) ?_ _
 go_wp2
 refine bodyPost_ret (v:=.agg #[.string nm,.int .i64 sz]) (results_cell_row (p:=4) (ty:=53) (by kernel_rfl) _ _ (w.heap.size+1) 53 _ (0,0) _ rfl (((HRES.out X1 HG1.out).set_ 0 _).set_ 1 _) Tryz.underlying53 rfl (by kernel_rfl)) rfl ?_
 have hne:sb≠w.heap.size+1:=by omega
 have hB1:w.grownBy X1 (some sb):=(grown_below' (row:=some sb) HB.out).trans HG1.out
 exact ⟨⟨nm,by rw [HNM.out];exact List.getElem_mem _,sz,rfl⟩,(HS1_.out.grown (grown_set X1 ⟨w.heap.size+1,0,none⟩ _) (fun g e=>by have e2:w.heap.size+1=g:=sj e;omega)).grown (grown_set _ ⟨w.heap.size+1,1,none⟩ _) (fun g e=>by have e2:w.heap.size+1=g:=sj e;omega),grown_own (grown_own hB1 (w.heap.size+1) (by omega) 0 _) (w.heap.size+1) (by omega) 1 _⟩
theorem gname_any (fr:Bool) (hs:SrcAt w sb) (l:List ByteArray) (Al:Option Addr) (cl:Nat) (hl:SlR w (fun b=>b<w.heap.size∧b≠sb) 1 RStr (.slice Al l.length cl) l) (v1 v2 v3 v4:Value) :
  Calls Tryz.prog 40 #[.agg #[v1,v2,v3,.bool fr,v4],.pointer (some ⟨sb,0,none⟩),.slice Al l.length cl] w fun e w'=>(∃s,okN c s∧e=.returned (.string s))∧SrcAt w' sb∧w.grownBy w' (some sb):=by
 cases fr with
 |true=>
  obtain ⟨n,hn⟩:∃n,n=l.length:=⟨_,rfl⟩
  rw [←hn]
  have HSRC:=Ω hs
  clear hs hl hn
  have BA:Hid (∀o,Below w.heap.size w (w.alloc o)):=Ω (fun o=>below1 w o)
  go_enter Tryz.func40,Tryz.ntmps40
  go_wp2_with (first|(go_at_call 21;refine (next_any _ sb 312 (by omega) (HSRC.out.below (BA.out _))).mono ?_;rintro e w1 ⟨⟨k,hk,rfl⟩,hs1,hg1⟩;have HG1:Hid (w.grownBy w1 (some sb)):=Ω ((grown_below' (row:=some sb) (BA.out _)).trans hg1);have HS1:=Ω hs1;have HK:=Ω hk;clear hs1 hg1)|(go_at_call 42;refine (var_any _ sb k HK.out HS1.out).mono ?_;rintro e w2 ⟨⟨s,rfl⟩,hs2,hg2⟩;have HS2:=Ω hs2;have HG2:=Ω (HG1.out.trans hg2);clear hs2 hg2))
  go_ret
  exact ⟨⟨s,trivial,rfl⟩,HS2.out,HG2.out⟩
 |false=>
  rcases Nat.eq_zero_or_pos l.length with h0|hn
  ·rw [h0]
   have HSRC:=Ω hs
   clear hs hl h0
   have BA:Hid (∀o,Below w.heap.size w (w.alloc o)):=Ω (fun o=>below1 w o)
   go_enter Tryz.func40,Tryz.ntmps40
   go_wp2_with (first|(go_at_call 21;refine (next_any _ sb 312 (by omega) (HSRC.out.below (BA.out _))).mono ?_;rintro e w1 ⟨⟨k,hk,rfl⟩,hs1,hg1⟩;have HG1:Hid (w.grownBy w1 (some sb)):=Ω ((grown_below' (row:=some sb) (BA.out _)).trans hg1);have HS1:=Ω hs1;have HK:=Ω hk;clear hs1 hg1)|(go_at_call 42;refine (var_any _ sb k HK.out HS1.out).mono ?_;rintro e w2 ⟨⟨s,rfl⟩,hs2,hg2⟩;have HS2:=Ω hs2;have HG2:=Ω (HG1.out.trans hg2);clear hs2 hg2))
   go_ret
   exact ⟨⟨s,trivial,rfl⟩,HS2.out,HG2.out⟩
  ·exact (gname_0 hs l Al cl hl hn v1 v2 v3 v4).mono fun e w' ⟨⟨s,_,he⟩,h⟩=>⟨⟨s,trivial,he⟩,h⟩
set_option maxRecDepth 100000 in
theorem garray_any (fr:Bool) (hs:SrcAt w sb) (hc:ScAt w sb c Av Aa Af cv ca cf) (v1 v3 v4:Value) :
  Calls Tryz.prog 25 #[.agg #[v1,.slice Aa c.arrs.length ca,v3,.bool fr,v4],.pointer (some ⟨sb,0,none⟩)] w fun e w'=>(∃s sz,okN c s∧e=.returned (.agg #[.string s,.int .i64 sz]))∧SrcAt w' sb∧w.grownBy w' (some sb):=by
 have HNE:Hid (sb<w.heap.size):=Ω hs.lt
 cases fr with
 |true=>
  obtain ⟨n,hn⟩:∃n,n=c.arrs.length:=⟨_,rfl⟩
  rw [←hn]
  have HSRC:=Ω hs
  clear hs hc hn
  go_enter Tryz.func25,Tryz.ntmps25
  go_upto_region 2 with fail
  refine wp_world ?_
  intro W hW
  have hB:Below w.heap.size w W:=by rw [←hW];exact below2 _ _ _
  have HR:Hid (Blk W (w.heap.size+1) 53 #[.string ⟨#[]⟩,.int .i64 0]):=Ω (by rw [←hW];exact Blk.new_at _ _ _ (by simp))
  have HST:=Ω (HSRC.out.below hB)
  have HB:=Ω hB
  clear hW hB
  have tok:True:=trivial
  go_wp2_with (first|(have _t:=tok;go_at_call 21;refine (next_any _ sb 312 (by omega) HST.out).mono ?_;rintro e w1 ⟨⟨k,hk,rfl⟩,hs1,hg1⟩;have HG1:=Ω hg1;have HS1:=Ω hs1;have HK:=Ω hk;clear hs1 hg1 _t tok)|(go_at_call 42;refine (var_any _ sb k HK.out HS1.out).mono ?_;rintro e w2 ⟨⟨s,rfl⟩,hs2,hg2⟩;have HS2:=Ω hs2;have HG2:=Ω (HG1.out.trans hg2);clear hs2 hg2)|(go_at_call 21;refine (next_any _ sb 1000 (by omega) HS2.out).mono ?_;rintro e w3 ⟨⟨m,hm,rfl⟩,hs3,hg3⟩;have HS3:=Ω hs3;have hg3t:=HG2.out.trans hg3;have hr3:=HR.out.grown hg3t (fun e=>by have:=sj e;have:=HNE.out;omega);have r0:=hr3.cell 0;have r1:=hr3.cell 1;have f0:=hr3.frozen 0;have f1:=hr3.frozen 1;have HG3:=Ω hg3t;have HR3:=Ω hr3;clear hs3 hg3 hg3t hr3)) 
  refine bodyPost_ret (v:=.agg #[.string s,.int .i64 (1+(m:Int))]) (results_cell_row (p:=4) (ty:=53) (by kernel_rfl) _ _ (w.heap.size+1) 53 _ (0,0) _ rfl ((HR3.out.set_ 0 _).set_ 1 _) Tryz.underlying53 rfl (by kernel_rfl)) rfl ?_
  exact ⟨⟨s,_,trivial,rfl⟩,(HS3.out.grown (grown_set w3 ⟨w.heap.size+1,0,none⟩ _) (fun g e=>by have e2:w.heap.size+1=g:=sj e;have:=HNE.out;omega)).grown (grown_set _ ⟨w.heap.size+1,1,none⟩ _) (fun g e=>by have e2:w.heap.size+1=g:=sj e;have:=HNE.out;omega),grown_own (grown_own ((grown_below' (row:=some sb) HB.out).trans HG3.out) (w.heap.size+1) (by omega) 0 _) (w.heap.size+1) (by omega) 1 _⟩
 |false=>
  rcases Nat.eq_zero_or_pos c.arrs.length with h0|hn
  ·rw [h0]
   have HSRC:=Ω hs
   clear hs hc h0
   go_enter Tryz.func25,Tryz.ntmps25
   go_upto_region 2 with fail
   refine wp_world ?_
   intro W hW
   have hB:Below w.heap.size w W:=by rw [←hW];exact below2 _ _ _
   have HR:Hid (Blk W (w.heap.size+1) 53 #[.string ⟨#[]⟩,.int .i64 0]):=Ω (by rw [←hW];exact Blk.new_at _ _ _ (by simp))
   have HST:=Ω (HSRC.out.below hB)
   have HB:=Ω hB
   clear hW hB
   have tok:True:=trivial
   go_wp2_with (first|(have _t:=tok;go_at_call 21;refine (next_any _ sb 312 (by omega) HST.out).mono ?_;rintro e w1 ⟨⟨k,hk,rfl⟩,hs1,hg1⟩;have HG1:=Ω hg1;have HS1:=Ω hs1;have HK:=Ω hk;clear hs1 hg1 _t tok)|(go_at_call 42;refine (var_any _ sb k HK.out HS1.out).mono ?_;rintro e w2 ⟨⟨s,rfl⟩,hs2,hg2⟩;have HS2:=Ω hs2;have HG2:=Ω (HG1.out.trans hg2);clear hs2 hg2)|(go_at_call 21;refine (next_any _ sb 1000 (by omega) HS2.out).mono ?_;rintro e w3 ⟨⟨m,hm,rfl⟩,hs3,hg3⟩;have HS3:=Ω hs3;have hg3t:=HG2.out.trans hg3;have hr3:=HR.out.grown hg3t (fun e=>by have:=sj e;have:=HNE.out;omega);have r0:=hr3.cell 0;have r1:=hr3.cell 1;have f0:=hr3.frozen 0;have f1:=hr3.frozen 1;have HG3:=Ω hg3t;have HR3:=Ω hr3;clear hs3 hg3 hg3t hr3)) 
   refine bodyPost_ret (v:=.agg #[.string s,.int .i64 (1+(m:Int))]) (results_cell_row (p:=4) (ty:=53) (by kernel_rfl) _ _ (w.heap.size+1) 53 _ (0,0) _ rfl ((HR3.out.set_ 0 _).set_ 1 _) Tryz.underlying53 rfl (by kernel_rfl)) rfl ?_
   exact ⟨⟨s,_,trivial,rfl⟩,(HS3.out.grown (grown_set w3 ⟨w.heap.size+1,0,none⟩ _) (fun g e=>by have e2:w.heap.size+1=g:=sj e;have:=HNE.out;omega)).grown (grown_set _ ⟨w.heap.size+1,1,none⟩ _) (fun g e=>by have e2:w.heap.size+1=g:=sj e;have:=HNE.out;omega),grown_own (grown_own ((grown_below' (row:=some sb) HB.out).trans HG3.out) (w.heap.size+1) (by omega) 0 _) (w.heap.size+1) (by omega) 1 _⟩
  ·exact (garray_0 hs hc hn v1 v3 v4).mono fun e w' ⟨⟨s,sz,_,he⟩,h⟩=>⟨⟨s,sz,trivial,he⟩,h⟩
end
end Go.Proofs.YtmignlclfbaifaaGreat
namespace Go.Proofs.YtmignlclfbaifaaGreat
open Go.RowKit
def fresh (w w':World):Nat→Prop:=fun b=>w.heap.size≤b∧b<w'.heap.size
def mE (_:Scp) (m:Nat) (x:LExpr):Prop:=x.args.length≤6+m
def ExprPost (w:World) (sb:Nat) (c:Scp) (m:Nat):Ending→World→Prop:=fun e w'=>
 (∃(x:LExpr) (va:Value),e=.returned (.agg #[.int .i64 x.kind,.int .i64 x.op,.int .i64 x.n,.string x.name,va])∧mE c m x∧SlR w' (fresh w w') 5 (RExpr m w' (fresh w w')) va x.args)∧SrcAt w' sb∧w.grownBy w' (some sb)
def ExprAt (fr:Bool) (m:Nat):Prop:=∀(w:World) (sb:Nat) (c:Scp) (Av Aa Af:Option Addr) (cv ca cf:Nat) (loop:Bool),SrcAt w sb→ScAt w sb c Av Aa Af cv ca cf→ScOk c→
 Calls Tryz.prog 24 #[.agg #[.slice Av c.vars.length cv,.slice Aa c.arrs.length ca,.slice Af c.funs.length cf,.bool fr,.bool loop],.pointer (some ⟨sb,0,none⟩),.int .i64 (m:Int)] w (ExprPost w sb c m)
def IsCall (e:Ending):Prop:=∃(a b:Int) (s:ByteArray) (v:Value),e=.returned (.agg #[.int .i64 5,.int .i64 a,.int .i64 b,.string s,v])
def CallAt (fr:Bool) (m:Nat):Prop:=∀(w:World) (sb:Nat) (c:Scp) (Av Aa Af:Option Addr) (cv ca cf:Nat) (loop:Bool),SrcAt w sb→ScAt w sb c Av Aa Af cv ca cf→ScOk c→
 Calls Tryz.prog 41 #[.agg #[.slice Av c.vars.length cv,.slice Aa c.arrs.length ca,.slice Af c.funs.length cf,.bool fr,.bool loop],.pointer (some ⟨sb,0,none⟩),.int .i64 (m:Int)] w fun e w'=>ExprPost w sb c m e w'∧IsCall e
structure StE (fr:Bool) (w:World) (sb:Nat) (X:World) (nv na nf:Nat) (Av Aa Af:Option Addr) (cv ca cf:Nat) (loop:Bool):Prop where
 g:w.grownBy X (some sb)
 src:SrcAt X sb
 box:Blk X w.heap.size 61 #[.slice Av nv cv,.slice Aa na ca,.slice Af nf cf,.bool fr,.bool loop]
 res:Blk X (w.heap.size+1) 42 #[.int .i64 0,.int .i64 0,.int .i64 0,.string ⟨#[]⟩,.slice none 0 0]
 lt:w.heap.size+1<X.heap.size
 sb:sb<w.heap.size
section
variable {fr:Bool} {w X Y:World} {sb nv na nf:Nat} {c:Scp} {Av Aa Af:Option Addr} {cv ca cf:Nat} {loop:Bool}
theorem StE.step (h:StE fr w sb X nv na nf Av Aa Af cv ca cf loop) (hg:X.grownBy Y (some sb)) (hs:SrcAt Y sb):StE fr w sb Y nv na nf Av Aa Af cv ca cf loop:=
 have hb:=h.sb
 ⟨h.g.trans hg,hs,h.box.grown hg (fun e=>by have:=sj e;omega),h.res.grown hg (fun e=>by have:=sj e;omega),ltle h.lt hg.size,hb⟩
theorem StE.below (h:StE fr w sb X nv na nf Av Aa Af cv ca cf loop) (hb:Below X.heap.size X Y):StE fr w sb Y nv na nf Av Aa Af cv ca cf loop:=h.step (grown_below' hb) (h.src.below hb)
theorem expr_end {m:Nat} (h:StE fr w sb X nv na nf Av Aa Af cv ca cf loop) (x:LExpr) (va:Value) (hmade:mE c m x) (hargs:SlR X (fun b=>w.heap.size+2≤b∧b<X.heap.size) 5 (RExpr m X (fun b=>w.heap.size+2≤b∧b<X.heap.size)) va x.args) :
  Blk (((((X.setCell ⟨w.heap.size+1,0,none⟩ (.int .i64 x.kind)).setCell ⟨w.heap.size+1,1,none⟩ (.int .i64 x.op)).setCell ⟨w.heap.size+1,2,none⟩ (.int .i64 x.n)).setCell ⟨w.heap.size+1,3,none⟩ (.string x.name)).setCell ⟨w.heap.size+1,4,none⟩ va) (w.heap.size+1) 42 #[.int .i64 x.kind,.int .i64 x.op,.int .i64 x.n,.string x.name,va]∧
  ExprPost w sb c m (.returned (.agg #[.int .i64 x.kind,.int .i64 x.op,.int .i64 x.n,.string x.name,va])) (((((X.setCell ⟨w.heap.size+1,0,none⟩ (.int .i64 x.kind)).setCell ⟨w.heap.size+1,1,none⟩ (.int .i64 x.op)).setCell ⟨w.heap.size+1,2,none⟩ (.int .i64 x.n)).setCell ⟨w.heap.size+1,3,none⟩ (.string x.name)).setCell ⟨w.heap.size+1,4,none⟩ va):=by
 have hb:=h.sb
 have hblk:=((((h.res.set_ 0 (.int .i64 x.kind)).set_ 1 (.int .i64 x.op)).set_ 2 (.int .i64 x.n)).set_ 3 (.string x.name)).set_ 4 va
 have hgo:=grown_own (grown_own (grown_own (grown_own (grown_own h.g (w.heap.size+1) (by omega) 0 (.int .i64 x.kind)) (w.heap.size+1) (by omega) 1 (.int .i64 x.op)) (w.heap.size+1) (by omega) 2 (.int .i64 x.n)) (w.heap.size+1) (by omega) 3 (.string x.name)) (w.heap.size+1) (by omega) 4 va
 generalize hZ:((((X.setCell ⟨w.heap.size+1,0,none⟩ (.int .i64 x.kind)).setCell ⟨w.heap.size+1,1,none⟩ (.int .i64 x.op)).setCell ⟨w.heap.size+1,2,none⟩ (.int .i64 x.n)).setCell ⟨w.heap.size+1,3,none⟩ (.string x.name)).setCell ⟨w.heap.size+1,4,none⟩ va=Z at *
 have hXZ:∀b,b≠w.heap.size+1→Z.heap[b]?=X.heap[b]?:=fun b hne=>by
  rw [←hZ]
  exact (bhs _ ⟨w.heap.size+1,4,none⟩ _ b hne).trans ((bhs _ ⟨w.heap.size+1,3,none⟩ _ b hne).trans ((bhs _ ⟨w.heap.size+1,2,none⟩ _ b hne).trans ((bhs _ ⟨w.heap.size+1,1,none⟩ _ b hne).trans (bhs _ ⟨w.heap.size+1,0,none⟩ _ b hne))))
 have hsz:Z.heap.size=X.heap.size:=by rw [←hZ];simp [World.setCell]
 have up:∀b,(w.heap.size+2≤b∧b<X.heap.size)→fresh w Z b:=fun b hb=>⟨by omega,by omega⟩
 have kp:Keeps (fun b=>w.heap.size+2≤b∧b<X.heap.size) X Z:=fun b hb=>hXZ b (by omega)
 exact ⟨hblk,⟨x,va,rfl,hmade,hargs.imp up kp fun _ _ _ r=>r.imp up kp⟩,h.src.keep (fun b hb=>hXZ b (by omega)),hgo⟩
end
theorem row_one {X:World} {ok:Nat→Prop} {m g:Nat} {T:TypeId} {x:LExpr} {va:Value} (h:Blk X g T #[.int .i64 x.kind,.int .i64 x.op,.int .i64 x.n,.string x.name,va]) (hx:RExpr m X ok (exprCells x va) x) (hg:ok g):SlR X ok 5 (RExpr m X ok) (.slice (some ⟨g,0,none⟩) 1 1) [x]:=
 SlR.lit [exprCells x va] h rfl ⟨⟨rfl,hx⟩,trivial⟩ rfl hg (by decide)
theorem row_two {X:World} {ok:Nat→Prop} {m g:Nat} {T:TypeId} {x y:LExpr} {va vb:Value} (h:Blk X g T #[.int .i64 x.kind,.int .i64 x.op,.int .i64 x.n,.string x.name,va,.int .i64 y.kind,.int .i64 y.op,.int .i64 y.n,.string y.name,vb]) (hx:RExpr m X ok (exprCells x va) x) (hy:RExpr m X ok (exprCells y vb) y) (hg:ok g):SlR X ok 5 (RExpr m X ok) (.slice (some ⟨g,0,none⟩) 2 2) [x,y]:=
 SlR.lit [exprCells x va,exprCells y vb] h rfl ⟨⟨rfl,hx⟩,⟨rfl,hy⟩,trivial⟩ rfl hg (by decide)
theorem made_var {c:Scp} {m:Nat} (_:1≤m) (_:ScOk c) {s:ByteArray} (_:okN c s):mE c m ⟨2,0,0,s,[]⟩:=Nat.zero_le _
theorem made_num {c:Scp} {m:Nat} (_:1≤m) {v:Int} (_:0≤v):mE c m ⟨1,0,v,⟨#[]⟩,[]⟩:=Nat.zero_le _
theorem made_read {c:Scp} {m:Nat} (_:1≤m):mE c m ⟨7,0,0,⟨#[]⟩,[]⟩:=Nat.zero_le _
theorem made_one {c:Scp} {m:Nat} (_:2≤m) {r:Nat} (_:r<3) {x:LExpr} (_:mE c (m-1) x):mE c m ⟨3,17+(r:Int),0,⟨#[]⟩,[x]⟩:=(by show 1≤6+m;omega)
theorem made_two {c:Scp} {m:Nat} (_:2≤m) {r:Nat} (_:r<16) {x y:LExpr} (_:mE c (m-1) x) (_:mE c (m-1) y):mE c m ⟨4,1+(r:Int),0,⟨#[]⟩,[x,y]⟩:=(by show 2≤6+m;omega)
theorem made_index {c:Scp} {m:Nat} (_:2≤m) (_:ScOk c) {s:ByteArray} (_:okN c s) {x:LExpr} (_:mE c (m-1) x):mE c m ⟨6,0,0,s,[x]⟩:=(by show 1≤6+m;omega)
def made2 (w X:World):Nat→Prop:=fun b=>w.heap.size+2≤b∧b<X.heap.size
def RowE (w X:World) (m:Nat) (va:Value) (l:List LExpr):Prop:=SlR X (made2 w X) 5 (RExpr m X (made2 w X)) va l
theorem RowE.keep {w X Y:World} {m:Nat} {va:Value} {l:List LExpr} (h:RowE w X m va l) (hk:Keeps (made2 w X) X Y) (hs:X.heap.size≤Y.heap.size):RowE w Y m va l:=
 SlR.imp h (fun _ hb=>⟨hb.1,ltle hb.2 hs⟩) hk fun _ _ _ r=>r.imp (fun _ hb=>⟨hb.1,ltle hb.2 hs⟩) hk
theorem RowE.grown {w X Y:World} {sb m:Nat} {va:Value} {l:List LExpr} (h:RowE w X m va l) (hg:X.grownBy Y (some sb)) (hb:sb<w.heap.size):RowE w Y m va l:=
 h.keep (fun b hb2=>hg.block b hb2.2 (fun e=>by have h1:=sj e;have h2:=hb2.1;omega)) hg.size
theorem RowE.below {w X Y:World} {m:Nat} {va:Value} {l:List LExpr} (h:RowE w X m va l) (hb:Below X.heap.size X Y):RowE w Y m va l:=
 h.keep (fun b hb2=>hb.block b hb2.2) hb.size
section
variable {fr:Bool} {w X Y:World} {sb nv na nf m:Nat} {c:Scp} {Av Aa Af:Option Addr} {cv ca cf:Nat} {loop:Bool}
theorem ExprPost.open {e:Ending} (h:ExprPost X sb c m e Y) (hst:StE fr w sb X nv na nf Av Aa Af cv ca cf loop) :
  ∃(x:LExpr) (A:Option Addr) (cx:Nat),e=.returned (.agg #[.int .i64 x.kind,.int .i64 x.op,.int .i64 x.n,.string x.name,.slice A x.args.length cx])∧mE c m x∧RowE w Y m (.slice A x.args.length cx) x.args∧StE fr w sb Y nv na nf Av Aa Af cv ca cf loop∧X.grownBy Y (some sb):=by
 obtain ⟨⟨x,va,he,hm,hr⟩,hs,hg⟩:=h
 obtain ⟨A,cx,hv,_,_⟩:=hr.val
 have hlt:=hst.lt
 have up:∀b,fresh X Y b→made2 w Y b:=fun b hb=>⟨by have:=hb.1;omega,hb.2⟩
 have hr2:RowE w Y m va x.args:=SlR.imp hr up (fun _ _=>rfl) fun _ _ _ r=>r.imp up (fun _ _=>rfl)
 rw [hv] at he hr2
 exact ⟨x,A,cx,he,hm,hr2,hst.step hg hs,hg⟩
theorem rexpr_row {x:LExpr} {va:Value} (hm:1≤m) (h:RowE w X (m-1) va x.args):RExpr m X (made2 w X) (exprCells x va) x:=by
 obtain ⟨m,rfl⟩:∃q,m=q+1:=⟨m-1,by omega⟩
 exact ⟨va,rfl,h⟩
theorem rowE_one {g:Nat} {T:TypeId} {x:LExpr} {va:Value} (hm:1≤m) (h:Blk X g T #[.int .i64 x.kind,.int .i64 x.op,.int .i64 x.n,.string x.name,va]) (hx:RowE w X (m-1) va x.args) (hg:w.heap.size+2≤g) (hl:g<X.heap.size):RowE w X m (.slice (some ⟨g,0,none⟩) 1 1) [x]:=
 row_one h (rexpr_row hm hx) ⟨hg,hl⟩
theorem rowE_two {g:Nat} {T:TypeId} {x y:LExpr} {va vb:Value} (hm:1≤m) (h:Blk X g T #[.int .i64 x.kind,.int .i64 x.op,.int .i64 x.n,.string x.name,va,.int .i64 y.kind,.int .i64 y.op,.int .i64 y.n,.string y.name,vb]) (hx:RowE w X (m-1) va x.args) (hy:RowE w X (m-1) vb y.args) (hg:w.heap.size+2≤g) (hl:g<X.heap.size):RowE w X m (.slice (some ⟨g,0,none⟩) 2 2) [x,y]:=
 row_two h (rexpr_row hm hx) (rexpr_row hm hy) ⟨hg,hl⟩
theorem expr_end_alloc (h:StE fr w sb X nv na nf Av Aa Af cv ca cf loop) (o:Obj) (x:LExpr) (va:Value) (hmade:mE c m x) (hargs:RowE w (X.alloc o) m va x.args) :
  Blk ((((((X.setCell ⟨w.heap.size+1,0,none⟩ (.int .i64 x.kind)).setCell ⟨w.heap.size+1,1,none⟩ (.int .i64 x.op)).setCell ⟨w.heap.size+1,2,none⟩ (.int .i64 x.n)).setCell ⟨w.heap.size+1,3,none⟩ (.string x.name)).setCell ⟨w.heap.size+1,4,none⟩ va).alloc o) (w.heap.size+1) 42 #[.int .i64 x.kind,.int .i64 x.op,.int .i64 x.n,.string x.name,va]∧
  ExprPost w sb c m (.returned (.agg #[.int .i64 x.kind,.int .i64 x.op,.int .i64 x.n,.string x.name,va])) ((((((X.setCell ⟨w.heap.size+1,0,none⟩ (.int .i64 x.kind)).setCell ⟨w.heap.size+1,1,none⟩ (.int .i64 x.op)).setCell ⟨w.heap.size+1,2,none⟩ (.int .i64 x.n)).setCell ⟨w.heap.size+1,3,none⟩ (.string x.name)).setCell ⟨w.heap.size+1,4,none⟩ va).alloc o):=by
 have hlt:=h.lt
 have e:=expr_end (h.below (below1 _ _)) x va hmade hargs
 rw [World.setCell_alloc_past o _ 0 _ hlt,World.setCell_alloc_past o _ 1 _ (by simpa using hlt),World.setCell_alloc_past o _ 2 _ (by simpa using hlt),World.setCell_alloc_past o _ 3 _ (by simpa using hlt),World.setCell_alloc_past o _ 4 _ (by simpa using hlt)] at e
 exact e
end
end Go.Proofs.YtmignlclfbaifaaGreat
namespace Go.Proofs.YtmignlclfbaifaaGreat
open Go.RowKit
theorem mono_expr (M:Nat):MonoR fun Y ok=>RExpr M Y ok:=fun _ _ _ _ _ _ h a b=>h.imp a b M
theorem mono_stmt (M:Nat):MonoR fun Y ok=>RStmt M Y ok:=fun _ _ _ _ _ _ h a b=>h.imp a b M
theorem info_expr:(Tryz.prog.info? 42).map (fun i=>(i.zero,i.size,i.bytes))=some (some (.agg #[.int .i64 0,.int .i64 0,.int .i64 0,.string ⟨#[]⟩,.slice none 0 0]),5,64):=by kernel_rfl
theorem info_stmt:(Tryz.prog.info? 45).map (fun i=>(i.zero,i.size,i.bytes))=some (some (.agg #[.int .i64 0,.string ⟨#[]⟩,.slice none 0 0,.slice none 0 0,.slice none 0 0]),5,96):=by kernel_rfl
theorem ExprPost.new {X Y:World} {sb m:Nat} {c:Scp} {e:Ending} (h:ExprPost X sb c m e Y) :
  ∃(x:LExpr) (A:Option Addr) (cx:Nat),e=.returned (.agg #[.int .i64 x.kind,.int .i64 x.op,.int .i64 x.n,.string x.name,.slice A x.args.length cx])∧mE c m x∧RExpr (m+1) Y (fresh X Y) (exprCells x (.slice A x.args.length cx)) x∧SrcAt Y sb∧X.grownBy Y (some sb):=by
 obtain ⟨⟨x,va,he,hm,hr⟩,hs,hg⟩:=h
 obtain ⟨A,cx,hv,_,_⟩:=hr.val
 rw [hv] at he hr
 exact ⟨x,A,cx,he,hm,⟨_,rfl,hr⟩,hs,hg⟩
structure BoxS (w:World) (sb:Nat) (X:World) (base g:Nat) (T:TypeId) (cs:Array Value) (M:Nat) (P:LExpr→Prop) (v:Value) (l:List LExpr):Prop where
 gr:w.grownBy X (some sb)
 src:SrcAt X sb
 blk:Blk X g T cs
 lo:w.heap.size≤g
 gb:g<base
 bs:base≤X.heap.size
 own:∃css,OwnL X base 42 5 (fun Y ok=>RExpr M Y ok) v l css
 made:∀x∈l,P x
 sb:sb<w.heap.size
section
variable {w X Y X1 X2 X3:World} {sb base g M:Nat} {T:TypeId} {cs:Array Value} {P:LExpr→Prop} {v:Value} {l:List LExpr}
theorem BoxS.step (h:BoxS w sb X base g T cs M P v l) (hg:X.grownBy Y (some sb)) (hs:SrcAt Y sb):BoxS w sb Y base g T cs M P v l:=by
 have h1:=h.sb
 have h2:=h.lo
 have h3:=h.gb
 obtain ⟨css,hc⟩:=h.own
 exact ⟨h.gr.trans hg,hs,h.blk.grown hg (fun e=>by have:=sj e;omega),h.lo,h.gb,Nat.le_trans h.bs hg.size,⟨css,hc.keep (mono_expr M) (fun b hb=>hg.block b hb.2 (fun e=>by have h4:=sj e;have h5:=hb.1;omega)) hg.size⟩,h.made,h.sb⟩
theorem BoxS.below (h:BoxS w sb X base g T cs M P v l) (hb:Below X.heap.size X Y):BoxS w sb Y base g T cs M P v l:=h.step (grown_below' hb) (h.src.below hb)
theorem BoxS.drew (h:BoxS w sb X base g T cs M P v l):BoxS w sb X.drew base g T cs M P v l:=h.below (Below.refl _ _).drew
theorem BoxS.app (h:BoxS w sb X base g T cs M P v l) (hg:X.grownBy X1 (some sb)) (hs:SrcAt X1 sb) (h12:Below X1.heap.size X1 X2) {n:Nat} (hn:n=l.length) {css:List (List Value)} (how:OwnL X base 42 5 (fun Y ok=>RExpr M Y ok) v l css)
  {x:LExpr} {cx:List Value} (hx:RExpr M X1 (fresh X X1) cx x) (hcx:cx.length=5) (hP:P x) {gg cap:Nat} (hrow:X3.ownsRow base 42 5 (.slice (some ⟨gg,0,none⟩) (n+1) cap) (n+1) (css.flatten++cx))
  (hgr:X2.grownBy X3 v.ownBlock) (hat:v.ownBlock=some gg∨gg=X2.heap.size):BoxS w sb X3 base g T cs M P (.slice (some ⟨gg,0,none⟩) (n+1) cap) (l++[x]):=by
 subst hn
 have h2:BoxS w sb X2 base g T cs M P v l:=(h.step hg hs).below h12
 have hvb:∀k,v.ownBlock=some k→base≤k∧k<X.heap.size:=how.lt
 have hlo:=h.lo
 have hgb:=h.gb
 have hsb:=h.sb
 have hne:∀b,b<base→some b≠v.ownBlock:=fun b hb e=>by have:=hvb b e.symm;omega
 have hok:∀b,fresh X X1 b→base≤b∧b<X2.heap.size∧v.ownBlock≠some b:=fun b hb=>⟨Nat.le_trans h.bs hb.1,ltle hb.2 h12.size,fun e=>by have h5:=(hvb b e).2;have h6:=hb.1;omega⟩
 have hx2:=(hx.imp (fun _ h=>h) (fun b hb=>h12.block b hb.2) M:RExpr M X2 (fresh X X1) cx x).imp hok (fun _ _=>rfl) M
 have kp:Keeps (fun b=>base≤b∧b<X.heap.size) X X2:=fun b hb=>(h12.block b (ltle hb.2 hg.size)).trans (hg.block b hb.2 (fun e=>by have h4:=sj e;have h5:=hb.1;omega))
 refine ⟨?_,?_,h2.blk.grown hgr (fun e=>hne g hgb e.symm),hlo,hgb,Nat.le_trans h2.bs hgr.size,⟨_,OwnL.snoc (mono_expr M) how kp (Nat.le_trans hg.size h12.size) hcx hrow hgr (hat.imp id (fun e=>Nat.le_of_eq e.symm)) hx2⟩,?_,hsb⟩
 ·exact ⟨hgr.os.trans h2.gr.os,hgr.tape.trans h2.gr.tape,hgr.output.trans h2.gr.output,Nat.le_trans h2.gr.size hgr.size,fun k hk hne2=>(hgr.block k (ltle hk h2.gr.size) (hne k (by omega))).trans (h2.gr.block k hk hne2)⟩
 ·exact h2.src.grown hgr (fun k e=>by have:=hvb k e;omega)
 ·intro y hy
  rcases List.mem_append.1 hy with hy|hy
  ·exact h.made y hy
  ·obtain rfl:=List.mem_singleton.1 hy;exact hP
theorem BoxS.row2 (h:BoxS w sb X base g T cs M P v l) (hg:X.grownBy X1 (some sb)) (h12:Below X1.heap.size X1 X2) {n:Nat} (hn:n=l.length) {css:List (List Value)} (how:OwnL X base 42 5 (fun Y ok=>RExpr M Y ok) v l css):X2.ownsRow base 42 5 v n css.flatten:=by
 subst hn
 have hlo:=h.lo
 have hgb:=h.gb
 have hsb:=h.sb
 exact (how.keep (mono_expr M) (fun b hb=>(h12.block b (ltle hb.2 hg.size)).trans (hg.block b hb.2 (fun e=>by have h4:=sj e;have h5:=hb.1;omega))) (Nat.le_trans hg.size h12.size)).row
theorem BoxS.set (h:BoxS w sb X base g T cs M P v l) (i:Nat) (u:Value):BoxS w sb (X.setCell ⟨g,i,none⟩ u) base g T (cs.setIfInBounds i u) M P v l:=by
 have h2:=h.lo
 have h3:=h.gb
 have h4:=h.sb
 obtain ⟨css,hc⟩:=h.own
 exact ⟨grown_own h.gr g h2 i u,h.src.keep (fun b hb=>bhs X ⟨g,i,none⟩ u b (by show b≠g;omega)),h.blk.set_ i u,h2,h3,by simpa [World.setCell] using h.bs,⟨css,hc.keep (mono_expr M) (fun b hb=>bhs X ⟨g,i,none⟩ u b (by show b≠g;have:=hb.1;omega)) (by simp [World.setCell])⟩,h.made,h4⟩
end
end Go.Proofs.YtmignlclfbaifaaGreat
namespace Go.Proofs.YtmignlclfbaifaaGreat
open Go.RowKit
structure BoxT (w:World) (sb:Nat) (X:World) (base g:Nat) (T:TypeId) (cs:Array Value) (M:Nat) (P:LStmt→Prop) (v:Value) (l:List LStmt):Prop where
 gr:w.grownBy X (some sb)
 src:SrcAt X sb
 blk:Blk X g T cs
 lo:w.heap.size≤g
 gb:g<base
 bs:base≤X.heap.size
 own:∃css,OwnL X base 45 5 (fun Y ok=>RStmt M Y ok) v l css
 made:∀x∈l,P x
 sb:sb<w.heap.size
section
variable {w X Y X1 X2 X3:World} {sb base g M:Nat} {T:TypeId} {cs:Array Value} {P:LStmt→Prop} {v:Value} {l:List LStmt}
theorem BoxT.step (h:BoxT w sb X base g T cs M P v l) (hg:X.grownBy Y (some sb)) (hs:SrcAt Y sb):BoxT w sb Y base g T cs M P v l:=by
 have h1:=h.sb
 have h2:=h.lo
 have h3:=h.gb
 obtain ⟨css,hc⟩:=h.own
 exact ⟨h.gr.trans hg,hs,h.blk.grown hg (fun e=>by have:=sj e;omega),h.lo,h.gb,Nat.le_trans h.bs hg.size,⟨css,hc.keep (mono_stmt M) (fun b hb=>hg.block b hb.2 (fun e=>by have h4:=sj e;have h5:=hb.1;omega)) hg.size⟩,h.made,h.sb⟩
theorem BoxT.below (h:BoxT w sb X base g T cs M P v l) (hb:Below X.heap.size X Y):BoxT w sb Y base g T cs M P v l:=h.step (grown_below' hb) (h.src.below hb)
theorem BoxT.app (h:BoxT w sb X base g T cs M P v l) (hg:X.grownBy X1 (some sb)) (hs:SrcAt X1 sb) (h12:Below X1.heap.size X1 X2) {n:Nat} (hn:n=l.length) {css:List (List Value)} (how:OwnL X base 45 5 (fun Y ok=>RStmt M Y ok) v l css)
  {x:LStmt} {cx:List Value} (hx:RStmt M X1 (fresh X X1) cx x) (hcx:cx.length=5) (hP:P x) {gg cap:Nat} (hrow:X3.ownsRow base 45 5 (.slice (some ⟨gg,0,none⟩) (n+1) cap) (n+1) (css.flatten++cx))
  (hgr:X2.grownBy X3 v.ownBlock) (hat:v.ownBlock=some gg∨gg=X2.heap.size):BoxT w sb X3 base g T cs M P (.slice (some ⟨gg,0,none⟩) (n+1) cap) (l++[x]):=by
 subst hn
 have h2:BoxT w sb X2 base g T cs M P v l:=(h.step hg hs).below h12
 have hvb:∀k,v.ownBlock=some k→base≤k∧k<X.heap.size:=how.lt
 have hlo:=h.lo
 have hgb:=h.gb
 have hsb:=h.sb
 have hne:∀b,b<base→some b≠v.ownBlock:=fun b hb e=>by have:=hvb b e.symm;omega
 have hok:∀b,fresh X X1 b→base≤b∧b<X2.heap.size∧v.ownBlock≠some b:=fun b hb=>⟨Nat.le_trans h.bs hb.1,ltle hb.2 h12.size,fun e=>by have h5:=(hvb b e).2;have h6:=hb.1;omega⟩
 have hx2:=(hx.imp (fun _ h=>h) (fun b hb=>h12.block b hb.2) M:RStmt M X2 (fresh X X1) cx x).imp hok (fun _ _=>rfl) M
 have kp:Keeps (fun b=>base≤b∧b<X.heap.size) X X2:=fun b hb=>(h12.block b (ltle hb.2 hg.size)).trans (hg.block b hb.2 (fun e=>by have h4:=sj e;have h5:=hb.1;omega))
 refine ⟨?_,?_,h2.blk.grown hgr (fun e=>hne g hgb e.symm),hlo,hgb,Nat.le_trans h2.bs hgr.size,⟨_,OwnL.snoc (mono_stmt M) how kp (Nat.le_trans hg.size h12.size) hcx hrow hgr (hat.imp id (fun e=>Nat.le_of_eq e.symm)) hx2⟩,?_,hsb⟩
 ·exact ⟨hgr.os.trans h2.gr.os,hgr.tape.trans h2.gr.tape,hgr.output.trans h2.gr.output,Nat.le_trans h2.gr.size hgr.size,fun k hk hne2=>(hgr.block k (ltle hk h2.gr.size) (hne k (by omega))).trans (h2.gr.block k hk hne2)⟩
 ·exact h2.src.grown hgr (fun k e=>by have:=hvb k e;omega)
 ·intro y hy
  rcases List.mem_append.1 hy with hy|hy
  ·exact h.made y hy
  ·obtain rfl:=List.mem_singleton.1 hy;exact hP
theorem BoxT.row2 (h:BoxT w sb X base g T cs M P v l) (hg:X.grownBy X1 (some sb)) (h12:Below X1.heap.size X1 X2) {n:Nat} (hn:n=l.length) {css:List (List Value)} (how:OwnL X base 45 5 (fun Y ok=>RStmt M Y ok) v l css):X2.ownsRow base 45 5 v n css.flatten:=by
 subst hn
 have hlo:=h.lo
 have hgb:=h.gb
 have hsb:=h.sb
 exact (how.keep (mono_stmt M) (fun b hb=>(h12.block b (ltle hb.2 hg.size)).trans (hg.block b hb.2 (fun e=>by have h4:=sj e;have h5:=hb.1;omega))) (Nat.le_trans hg.size h12.size)).row
end
def manyZ (k:Int):Nat:=if k=2 then 2 else if k=5∨k=6 then 0 else 1
def thinS:Nat→LStmt→Prop
 |0,_=>False
 |d+1,s=>s.thn.length≤4∧s.els.length≤4∧(∀x∈s.thn,thinS d x)∧∀x∈s.els,thinS d x
def GoodS (_:Scp) (d:Nat) (_:Bool) (s:LStmt):Prop:=thinS d s
structure HalfS (c:Scp) (d:Nat) (loop:Bool) (k:Int) (nm:ByteArray) (l:List LExpr) (thn els:List LStmt):Prop where
 fill:∀ys:List LExpr,(∀y∈ys,mE c 4 y)→l.length+ys.length=manyZ k→GoodS c d loop ⟨k,nm,l++ys,thn,els⟩
 few:l.length≤manyZ k
section
variable {c:Scp} {d:Nat} {loop:Bool} {k:Int} {nm:ByteArray} {l:List LExpr} {thn els:List LStmt}
theorem HalfS.more (h:HalfS c d loop k nm l thn els) {y:LExpr} (hy:mE c 4 y) (hl:l.length<manyZ k):HalfS c d loop k nm (l++[y]) thn els:=
 ⟨fun ys hys hn=>by
  have e:=h.fill (y :: ys) (fun z hz=>by rcases List.mem_cons.1 hz with rfl|hz;exact hy;exact hys z hz) (by simp at hn ⊢;omega)
  rw [List.append_assoc]
  exact e,by simp;omega⟩
theorem HalfS.full (h:HalfS c d loop k nm l thn els) (hl:l.length=manyZ k):GoodS c d loop ⟨k,nm,l,thn,els⟩:=by
 have e:=h.fill [] (fun _ h=>by cases h) (by simpa using hl)
 rw [List.append_nil] at e
 exact e
theorem made_up {c:Scp} {a b:Nat} (h:a≤b) {x:LExpr} (hx:mE c a x):mE c b x:=Nat.le_trans hx (by omega)
theorem thin_of (hd:1≤d) (ht:∀x∈thn,GoodS c (d-1) loop x) (he:∀x∈els,GoodS c (d-1) loop x) (lt:thn.length≤4) (le:els.length≤4) (args:List LExpr):thinS d ⟨k,nm,args,thn,els⟩:=by
 obtain ⟨d,rfl⟩:∃q,d=q+1:=⟨d-1,by omega⟩
 exact ⟨lt,le,ht,he⟩
theorem half_of (hd:1≤d) (hl:l.length≤manyZ k) (ht:∀x∈thn,GoodS c (d-1) loop x) (he:∀x∈els,GoodS c (d-1) loop x) (lt:thn.length≤4) (le:els.length≤4):HalfS c d loop k nm l thn els:=
 ⟨fun _ _ _=>thin_of hd ht he lt le _,hl⟩
theorem half_set (hd:1≤d) (_:ScOk c) (_:okN c nm):HalfS c d loop 1 nm [] [] []:=half_of hd (by decide) (fun _ h=>by cases h) (fun _ h=>by cases h) (Nat.zero_le _) (Nat.zero_le _)
theorem half_store (hd:1≤d) (_:ScOk c) (_:okN c nm) {x:LExpr} (_:mE c 4 x):HalfS c d loop 2 nm [x] [] []:=half_of hd (by show 1≤2;decide) (fun _ h=>by cases h) (fun _ h=>by cases h) (Nat.zero_le _) (Nat.zero_le _)
theorem half_one (hd:1≤d) (_:k=7∨k=8∨k=9):HalfS c d loop k ⟨#[]⟩ [] [] []:=half_of hd (Nat.zero_le _) (fun _ h=>by cases h) (fun _ h=>by cases h) (Nat.zero_le _) (Nat.zero_le _)
theorem half_call (hd:1≤d) {x:LExpr} (_:mE c 4 x) (_:x.kind=5):HalfS c d loop 10 ⟨#[]⟩ [x] [] []:=half_of hd (by show 1≤1;decide) (fun _ h=>by cases h) (fun _ h=>by cases h) (Nat.zero_le _) (Nat.zero_le _)
theorem half_if (hd:1≤d) {x:LExpr} (_:mE c 4 x) (ht:∀s∈thn,GoodS c (d-1) loop s) (he:∀s∈els,GoodS c (d-1) loop s) (lt:thn.length≤4) (le:els.length≤4):HalfS c d loop 3 ⟨#[]⟩ [x] thn els:=half_of hd (by show 1≤1;decide) ht he lt le
theorem half_while (hd:1≤d) {x:LExpr} (_:mE c 4 x) (ht:∀s∈thn,GoodS c (d-1) true s) (lt:thn.length≤4):HalfS c d loop 4 ⟨#[]⟩ [x] thn []:=half_of hd (by show 1≤1;decide) ht (fun _ h=>by cases h) lt (Nat.zero_le _)
theorem half_loop (hd:1≤d) (_:k=5∨k=6):HalfS c d loop k ⟨#[]⟩ [] [] []:=half_of hd (Nat.zero_le _) (fun _ h=>by cases h) (fun _ h=>by cases h) (Nat.zero_le _) (Nat.zero_le _)
end
def StmtsPost (w:World) (sb:Nat) (c:Scp) (d:Nat) (loop:Bool):Ending→World→Prop:=fun e w'=>
 (∃(l:List LStmt) (A:Option Addr) (cap:Nat),e=.returned (.slice A l.length cap)∧(∀s∈l,GoodS c d loop s)∧l.length≤4∧SlR w' (fresh w w') 5 (RStmt (d+4) w' (fresh w w')) (.slice A l.length cap) l)∧SrcAt w' sb∧w.grownBy w' (some sb)
def StmtsAt (fr:Bool) (d:Nat):Prop:=∀(w:World) (sb:Nat) (c:Scp) (Av Aa Af:Option Addr) (cv ca cf:Nat) (loop:Bool),SrcAt w sb→ScAt w sb c Av Aa Af cv ca cf→ScOk c→
 Calls Tryz.prog 26 #[.agg #[.slice Av c.vars.length cv,.slice Aa c.arrs.length ca,.slice Af c.funs.length cf,.bool fr,.bool loop],.pointer (some ⟨sb,0,none⟩),.int .i64 (d:Int)] w (StmtsPost w sb c d loop)
def behind (g:Nat) (X:World):Nat→Prop:=fun b=>g<b∧b<X.heap.size
def RowT (g:Nat) (X:World) (d:Nat) (v:Value) (l:List LStmt):Prop:=SlR X (behind g X) 5 (RStmt d X (behind g X)) v l
section
variable {w X Y:World} {g sb d d':Nat} {v:Value} {l:List LStmt}
theorem RowT.keep (h:RowT g X d v l) (hk:∀b,g<b→b<X.heap.size→Y.heap[b]?=X.heap[b]?) (hs:X.heap.size≤Y.heap.size):RowT g Y d v l:=
 SlR.imp h (fun _ hb=>⟨hb.1,ltle hb.2 hs⟩) (fun b hb=>hk b hb.1 hb.2) fun _ _ _ r=>r.imp (fun _ hb=>⟨hb.1,ltle hb.2 hs⟩) (fun b hb=>hk b hb.1 hb.2)
theorem RowT.grown (h:RowT g X d v l) (hg:X.grownBy Y (some sb)) (hb:sb<g):RowT g Y d v l:=
 h.keep (fun b h1 h2=>hg.block b h2 (fun e=>by have:=sj e;omega)) hg.size
theorem RowT.set (h:RowT g X d v l) (i:Nat) (u:Value):RowT g (X.setCell ⟨g,i,none⟩ u) d v l:=
 h.keep (fun b h1 _=>bhs X ⟨g,i,none⟩ u b (by show b≠g;omega)) (by simp [World.setCell])
theorem RowT.nil_ (g:Nat) (X:World) (d:Nat):RowT g X d (.slice none 0 0) []:=SlR.nil_ _ _ _ _
theorem RowT.val (h:RowT g X d v l):∃A c,v=.slice A l.length c:=by
 obtain ⟨A,c,hv,_,_⟩:=SlR.val h
 exact ⟨A,c,hv⟩
theorem StmtsPost.open {c:Scp} {loop:Bool} {e:Ending} (h:StmtsPost X sb c d loop e Y) (hg:g<X.heap.size) :
  ∃(l:List LStmt) (A:Option Addr) (cap:Nat),e=.returned (.slice A l.length cap)∧(∀s∈l,GoodS c d loop s)∧l.length≤4∧RowT g Y (d+4) (.slice A l.length cap) l∧SrcAt Y sb∧X.grownBy Y (some sb):=by
 obtain ⟨⟨l,A,cap,he,hm,hl,hr⟩,hs,hgr⟩:=h
 have up:∀b,fresh X Y b→behind g Y b:=fun b hb=>⟨ltle hg hb.1,hb.2⟩
 exact ⟨l,A,cap,he,hm,hl,SlR.imp hr up (fun _ _=>rfl) fun _ _ _ r=>r.imp up (fun _ _=>rfl),hs,hgr⟩
end
def RestS (g:Nat) (X:World) (d:Nat) (full:Prop) (vt ve:Value) (thn els:List LStmt):Prop:=
 (vt=.slice none 0 0∧ve=.slice none 0 0∧thn=[]∧els=[])∨(full∧RowT g X d vt thn∧RowT g X d ve els)
theorem RestS.rows {g:Nat} {X:World} {d:Nat} {full:Prop} {vt ve:Value} {thn els:List LStmt} (h:RestS g X d full vt ve thn els):RowT g X d vt thn∧RowT g X d ve els:=by
 rcases h with ⟨rfl,rfl,rfl,rfl⟩|⟨_,h1,h2⟩
 ·exact ⟨RowT.nil_ _ _ _,RowT.nil_ _ _ _⟩
 ·exact ⟨h1,h2⟩
def MidS (w:World) (sb:Nat) (X:World) (g:Nat) (c:Scp) (d:Nat) (loop:Bool):Prop:=
 ∃(k:Int) (nm:ByteArray) (v vt ve:Value) (l:List LExpr) (thn els:List LStmt),
  BoxS w sb X (g+1) g 45 #[.int .i64 k,.string nm,v,vt,ve] (d+4) (mE c 4) v l∧HalfS c d loop k nm l thn els∧RestS g X (d+3) (l.length=manyZ k) vt ve thn els
def DoneS (w:World) (sb:Nat) (X:World) (g:Nat) (c:Scp) (d:Nat) (loop:Bool):Prop:=
 ∃(s:LStmt) (Av At Ae:Option Addr) (cv ct ce:Nat),
  w.grownBy X (some sb)∧SrcAt X sb∧Blk X g 45 #[.int .i64 s.kind,.string s.name,.slice Av s.args.length cv,.slice At s.thn.length ct,.slice Ae s.els.length ce]∧
  RStmt (d+4) X (behind g X) (stmtCells s (.slice Av s.args.length cv) (.slice At s.thn.length ct) (.slice Ae s.els.length ce)) s∧GoodS c d loop s
theorem done_of {w:World} {sb:Nat} {X:World} {g:Nat} {c:Scp} {d:Nat} {loop:Bool} {k:Int} {nm:ByteArray} {v vt ve:Value} {l:List LExpr} {thn els:List LStmt}
  (hb:BoxS w sb X (g+1) g 45 #[.int .i64 k,.string nm,v,vt,ve] (d+4) (mE c 4) v l) (hh:HalfS c d loop k nm l thn els) (hr:RestS g X (d+3) (l.length=manyZ k) vt ve thn els) (hl:l.length=manyZ k):DoneS w sb X g c d loop:=by
 obtain ⟨ht,he⟩:=hr.rows
 obtain ⟨At,ct,rfl⟩:=ht.val
 obtain ⟨Ae,ce,rfl⟩:=he.val
 obtain ⟨css,hc⟩:=hb.own
 obtain ⟨Av,cv,rfl⟩:=own_form hc.row
 have hs:=hc.slr (mono_expr (d+4))
 have up:∀b,(g+1≤b∧b<X.heap.size)→behind g X b:=fun b hb=>⟨hb.1,hb.2⟩
 exact ⟨⟨k,nm,l,thn,els⟩,Av,At,Ae,cv,ct,ce,hb.gr,hb.src,hb.blk,⟨_,_,_,rfl,SlR.imp hs up (fun _ _=>rfl) fun _ _ _ r=>r.imp up (fun _ _=>rfl) _,ht,he⟩,hh.full hl⟩
theorem BoxS.sc {w X:World} {sb base g M b:Nat} {T T':TypeId} {cs cs':Array Value} {P:LExpr→Prop} {v:Value} {l:List LExpr} (h:BoxS w sb X base g T cs M P v l) (hb:Blk w b T' cs') (hne:sb≠b):Blk X b T' cs':=hb.grown h.gr (fun e=>by have:=sj e;omega)
theorem BoxS.dim {w X:World} {sb base g M:Nat} {T:TypeId} {k vt ve:Value} {nm:Value} {P:LExpr→Prop} (h:BoxS w sb X base g T #[k,nm,.slice none 0 0,vt,ve] M P (.slice none 0 0) []) :
  ∃(A:Option Addr) (n c:Nat) (l:List LExpr),BoxS w sb X base g T #[k,nm,.slice A n c,vt,ve] M P (.slice A n c) l∧n=l.length∧l=[]∧A=none:=⟨none,0,0,[],h,rfl,rfl,rfl⟩
theorem pair_cell {X:World} {g:Nat} {T:TypeId} {a b:Int} {r:Nat} (h:Blk X g T #[.int .i64 a,.int .i64 b]) (hr:r<2):∃v:Int,(v=a∨v=b)∧X.cell? ⟨g,r,none⟩=some (.int .i64 v):=by
 rcases (by omega:r=0∨r=1) with rfl|rfl
 ·exact ⟨a,.inl rfl,h.cell 0⟩
 ·exact ⟨b,.inr rfl,h.cell 1⟩
theorem BoxT.next {w W X X2 X3:World} {sb base g gs:Nat} {T:TypeId} {cs:Array Value} {c:Scp} {d:Nat} {loop:Bool} {v:Value} {lo:List LStmt} {s:LStmt} {va vt ve:Value}
  (h:BoxT w sb W base g T cs (d+4) (GoodS c d loop) v lo) (hg:W.grownBy X (some sb)) (hs:SrcAt X sb) (hgs:W.heap.size≤gs) (hx:RStmt (d+4) X (behind gs X) (stmtCells s va vt ve) s) (hP:GoodS c d loop s)
  (h12:Below X.heap.size X X2) {n:Nat} (hn:n=lo.length) {css:List (List Value)} (how:OwnL W base 45 5 (fun Y ok=>RStmt (d+4) Y ok) v lo css)
  {gg cap:Nat} (hrow:X3.ownsRow base 45 5 (.slice (some ⟨gg,0,none⟩) (n+1) cap) (n+1) (css.flatten++stmtCells s va vt ve))
  (hgr:X2.grownBy X3 v.ownBlock) (hat:v.ownBlock=some gg∨gg=X2.heap.size):BoxT w sb X3 base g T cs (d+4) (GoodS c d loop) (.slice (some ⟨gg,0,none⟩) (n+1) cap) (lo++[s]):=
 h.app hg hs h12 hn how (hx.imp (fun _ hb=>⟨Nat.le_of_lt (Nat.lt_of_le_of_lt hgs hb.1),hb.2⟩) (fun _ _=>rfl)) rfl hP hrow hgr hat
end Go.Proofs.YtmignlclfbaifaaGreat
