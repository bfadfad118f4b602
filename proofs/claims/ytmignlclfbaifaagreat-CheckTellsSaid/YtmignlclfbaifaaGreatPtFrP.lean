/- Parts of the generator's programs: an array, a function's head, a function, each as a lemma of its own. Printed by wip/gen_trprg.py. The generator's programs: counterprooflaw03.Prog of whatever raw numbers, free or not: some program. Printed by wip/gen_frprog.py. -/
import Derived.Test.YtmignlclfbaifaaGreatPtFrGrow
import Derived.Test.YtmignlclfbaifaaGreatPtFrGst
import Derived.Test.YtmignlclfbaifaaGreatPtTrSeqs
namespace Go.Proofs.YtmignlclfbaifaaGreat
open Go.RowKit
def nmA (i:Nat):ByteArray:=⟨#[97+i.toUInt8]⟩
def nmF (i:Nat):ByteArray:=⟨#[102+i.toUInt8]⟩
def okSz (v:Int):Prop:=v=1∨v=4∨v=10∨v=1000
theorem src_far2 {X:World} {sb g i j:Nat} {u v:Value} (h:SrcAt X sb) (hg:sb<g):SrcAt ((X.setCell ⟨g,i,none⟩ u).setCell ⟨g,j,none⟩ v) sb:=
 (h.keep fun b hb=>bhs X ⟨g,i,none⟩ u b (by show b≠g;omega)).keep fun b hb=>bhs _ ⟨g,j,none⟩ v b (by show b≠g;omega)
theorem three_cell {X:World} {g:Nat} {T:TypeId} {a b c:Value} {r:Nat} {f:Nat→Value} (h:Blk X g T #[a,b,c]) (hr:r<3) (ha:f 0=a) (hb:f 1=b) (hc:f 2=c):X.cell? ⟨g,r,none⟩=some (f r):=by
 rcases (by omega:r=0∨r=1∨r=2) with rfl|rfl|rfl
 ·rw [ha];exact h.cell 0
 ·rw [hb];exact h.cell 1
 ·rw [hc];exact h.cell 2
theorem four_cell {X:World} {g:Nat} {T:TypeId} {r:Nat} (h:Blk X g T #[.int .i64 1,.int .i64 4,.int .i64 10,.int .i64 1000]) (hr:r<4):∃v:Int,okSz v∧X.cell? ⟨g,r,none⟩=some (.int .i64 v):=by
 rcases (by omega:r=0∨r=1∨r=2∨r=3) with rfl|rfl|rfl|rfl
 ·exact ⟨1,.inl rfl,h.cell 0⟩
 ·exact ⟨4,.inr (.inl rfl),h.cell 1⟩
 ·exact ⟨10,.inr (.inr (.inl rfl)),h.cell 2⟩
 ·exact ⟨1000,.inr (.inr (.inr rfl)),h.cell 3⟩
set_option maxRecDepth 100000 in
set_option maxHeartbeats 8000000 in
theorem r9_any (cc:Code) (hc:(Tryz.f11.body.bind (regOf 9))=some cc) (Y:World) {sb i:Nat} (hi:i<3) (hsr:SrcAt Y sb)
  (Q:Exit→Act→World→Prop) (aA aB aC aD aE aF aG aI aJ aK aL aM aN aO aP aQ aR aS aT aU aV aW aX aY aZ bA bB bC bD bE bF bG bH bI bJ bK bL bM bN bO bP bQ bR bS bT bU bV bW bX bY bZ cA cB cC cD cE cF cG cH cI cJ cK cL cM cN cO cP cQ cR cS cT cU cV cW cX cY cZ dA dB dC dD dE dG dH dI dJ dK dL dM dN dO dP dQ dR dS dU dV dW dX dY dZ eA eB eC eD eE eF eG eH eI eJ eK eL eM eN eO eP eQ:Value)
  (hK:∀(eV eW eX eY eZ fA fB fC fD fE:Value) (w':World),∀(g:Nat) (v:Int),Y.grownBy w' (some sb)→SrcAt w' sb→Blk w' g 53 #[.string (nmA i),.int .i64 v]→Y.heap.size≤g→okSz v→Q .normal { tmps:=#[aA,aB,aC,aD,aE,.pointer (some ⟨sb,0,none⟩),aF,aG,.int .i64 (i:Int),.pointer (some ⟨g,0,none⟩),aJ,aK,aL,aM,aN,aO,aP,aQ,aR,aS,aT,aU,aV,aW,aX,aY,aZ,bA,bB,bC,bD,bE,bF,bG,eV,eW,eX,eY,eZ,fA,fB,fC,fD,fE,bR,bS,bT,bU,bV,bW,bX,bY,bZ,cA,cB,cC,cD,cE,cF,cG,cH,cI,cJ,cK,cL,cM,cN,cO,cP,cQ,cR,cS,cT,cU,cV,cW,cX,cY,cZ,dA,dB,dC,dD,dE,dG,dH,dI,dJ,dK,dL,dM,dN,dO,dP,dQ,dR,dS,dU,dV,dW,dX,dY,dZ,eA,eB,eC,eD,eE,eF,eG,eH,eI,eJ,eK,eL,eM,eN,eO,eP,eQ],defers:=[] } w'):cc.wp Tryz.prog Q { tmps:=#[aA,aB,aC,aD,aE,.pointer (some ⟨sb,0,none⟩),aF,aG,.int .i64 (i:Int),aI,aJ,aK,aL,aM,aN,aO,aP,aQ,aR,aS,aT,aU,aV,aW,aX,aY,aZ,bA,bB,bC,bD,bE,bF,bG,bH,bI,bJ,bK,bL,bM,bN,bO,bP,bQ,bR,bS,bT,bU,bV,bW,bX,bY,bZ,cA,cB,cC,cD,cE,cF,cG,cH,cI,cJ,cK,cL,cM,cN,cO,cP,cQ,cR,cS,cT,cU,cV,cW,cX,cY,cZ,dA,dB,dC,dD,dE,dG,dH,dI,dJ,dK,dL,dM,dN,dO,dP,dQ,dR,dS,dU,dV,dW,dX,dY,dZ,eA,eB,eC,eD,eE,eF,eG,eH,eI,eJ,eK,eL,eM,eN,eO,eP,eQ],defers:=[] } Y:=by
 have HKK:=Ω hK
 have hcc:Tryz.f11.body.bind (regOf 9)=some cc:=hc
 simp only [Tryz.f11,regOf,Nat.reduceEqDiff,Option.bind_some,↓reduceIte,Option.none_or,Option.or_none,Option.some.injEq] at hcc
 subst hcc
 clear hc hK
 have HSRC:=Ω hsr
 have HI:=Ω hi
 have HN0:Hid (sb<Y.heap.size):=Ω hsr.lt
 clear hsr
 refine wp_region_I (by kernel_rfl) (fun (listed:Array Bool) (a:Act) (w2:World)=>∃eR eV eW eX eY eZ fA fB fC fD fE:Value,a=⟨#[aA,aB,aC,aD,aE,.pointer (some ⟨sb,0,none⟩),aF,aG,.int .i64 (i:Int),eR,aJ,aK,aL,aM,aN,aO,aP,aQ,aR,aS,aT,aU,aV,aW,aX,aY,aZ,bA,bB,bC,bD,bE,bF,bG,eV,eW,eX,eY,eZ,fA,fB,fC,fD,fE,bR,bS,bT,bU,bV,bW,bX,bY,bZ,cA,cB,cC,cD,cE,cF,cG,cH,cI,cJ,cK,cL,cM,cN,cO,cP,cQ,cR,cS,cT,cU,cV,cW,cX,cY,cZ,dA,dB,dC,dD,dE,dG,dH,dI,dJ,dK,dL,dM,dN,dO,dP,dQ,dR,dS,dU,dV,dW,dX,dY,dZ,eA,eB,eC,eD,eE,eF,eG,eH,eI,eJ,eK,eL,eM,eN,eO,eP,eQ],[]⟩∧Y.grownBy w2 (some sb)∧SrcAt w2 sb∧(listed.getD 0 false=true→OwnBlk Y.heap.size w2 9 #[.string ⟨#[97]⟩,.string ⟨#[98]⟩,.string ⟨#[99]⟩] (fun g=>.slice (some ⟨g,0,none⟩) 3 3) eV)∧(listed.getD 1 false=true→eW=.int .i64 (i:Int))∧(listed.getD 2 false=true→OwnBlk Y.heap.size w2 9 #[.string ⟨#[97]⟩,.string ⟨#[98]⟩,.string ⟨#[99]⟩] (fun g=>.pointer (some ⟨g,i,none⟩)) eX)∧(listed.getD 3 false=true→eY=.string (nmA i))∧(listed.getD 4 false=true→OwnBlk Y.heap.size w2 3 #[.int .i64 1,.int .i64 4,.int .i64 10,.int .i64 1000] (fun g=>.slice (some ⟨g,0,none⟩) 4 4) eZ)∧(listed.getD 5 false=true→fA=.pointer (some ⟨sb,0,none⟩))∧(listed.getD 6 false=true→∃k:Nat,k<4∧fB=.int .i64 (k:Int))∧(listed.getD 7 false=true→∃k:Nat,k<4∧OwnBlk Y.heap.size w2 3 #[.int .i64 1,.int .i64 4,.int .i64 10,.int .i64 1000] (fun g=>.pointer (some ⟨g,k,none⟩)) fC)∧(listed.getD 8 false=true→∃v:Int,okSz v∧fD=.int .i64 v)∧(listed.getD 9 false=true→∃v:Int,okSz v∧fE=.agg #[.string (nmA i),.int .i64 v])∧(listed.getD 10 false=true→listed.getD 11 false=false→OwnBlk Y.heap.size w2 53 #[.string ⟨#[]⟩,.int .i64 0] (fun g=>.pointer (some ⟨g,0,none⟩)) eR)∧(listed.getD 11 false=true→listed.getD 10 false=true∧∃v:Int,okSz v∧OwnBlk Y.heap.size w2 53 #[.string (nmA i),.int .i64 v] (fun g=>.pointer (some ⟨g,0,none⟩)) eR)) 12 rfl (by kernel_rfl) ?_ ?_ ?_
 ·intro hno
  exact ⟨_,_,_,_,_,_,_,_,_,_,_,rfl,grown_below' (Below.refl _ _).drew,HSRC.out.below (Below.refl _ _).drew,fun h=>(hno _ h).elim,fun h=>(hno _ h).elim,fun h=>(hno _ h).elim,fun h=>(hno _ h).elim,fun h=>(hno _ h).elim,fun h=>(hno _ h).elim,fun h=>(hno _ h).elim,fun h=>(hno _ h).elim,fun h=>(hno _ h).elim,fun h=>(hno _ h).elim,fun h=>(hno _ h).elim,fun h=>(hno _ h).elim⟩
 ·refine StepsI.cons [] rfl (by kernel_rfl) ?_ (StepsI.cons [] rfl (by kernel_rfl) ?_ (StepsI.cons [0,1] rfl (by kernel_rfl) ?_ (StepsI.cons [2] rfl (by kernel_rfl) ?_ (StepsI.cons [] rfl (by kernel_rfl) ?_ (StepsI.cons [] rfl (by kernel_rfl) ?_ (StepsI.cons [5] rfl (by kernel_rfl) ?_ (StepsI.cons [4,6] rfl (by kernel_rfl) ?_ (StepsI.cons [7] rfl (by kernel_rfl) ?_ (StepsI.cons [3,8] rfl (by kernel_rfl) ?_ (StepsI.cons [] rfl (by kernel_rfl) ?_ (StepsI.cons [10,9,6,0,1,2,3,4,5,6,7,8,9,10] rfl (by kernel_rfl) ?_ StepsI.nil)))))))))))
  ·intro listed a w2 hI hd hself hun K hK
   obtain ⟨eR,eV,eW,eX,eY,eZ,fA,fB,fC,fD,fE,rfl,hg,hsr,o0,o1,o2,o3,o4,o5,o6,o7,o8,o9,o10,o11⟩:=hI
   have HGG:=Ω hg;have HSR:=Ω hsr;clear hg hsr
   have O0:=Ω o0
   have O1:=Ω o1
   have O2:=Ω o2
   have O3:=Ω o3
   have O4:=Ω o4
   have O5:=Ω o5
   have O6:=Ω o6
   have O7:=Ω o7
   have O8:=Ω o8
   have O9:=Ω o9
   have O10:=Ω o10
   have O11:=Ω o11
   clear o0 o1 o2 o3 o4 o5 o6 o7 o8 o9 o10 o11
   have HD:=Ω hd;have HUN:=Ω hun;clear hd hself hun
   go_simp
   have HGN:Hid (w2.grownBy (w2.alloc (.cells #[.string ⟨#[97]⟩,.string ⟨#[98]⟩,.string ⟨#[99]⟩] 9)) (some sb)):=Ω (World.grownBy_alloc _ _ _)
   refine hK.out _ _ (fun hk=>⟨_,_,_,_,_,_,_,_,_,_,_,rfl,HGG.out.trans HGN.out,HSR.out.below (below1 _ _),fun _=>⟨w2.heap.size,rfl,Blk.new _ _ _,HGG.out.size⟩,fun h=>O1.out ((hk _ h).resolve_left (by decide)),fun h=>OwnBlk.grown (O2.out ((hk _ h).resolve_left (by decide))) HGN.out HN0.out,fun h=>O3.out ((hk _ h).resolve_left (by decide)),fun h=>OwnBlk.grown (O4.out ((hk _ h).resolve_left (by decide))) HGN.out HN0.out,fun h=>O5.out ((hk _ h).resolve_left (by decide)),fun h=>O6.out ((hk _ h).resolve_left (by decide)),fun h=>(have q:=(O7.out ((hk _ h).resolve_left (by decide)));q.imp fun k hk2=>⟨hk2.1,hk2.2.grown HGN.out HN0.out⟩),fun h=>O8.out ((hk _ h).resolve_left (by decide)),fun h=>O9.out ((hk _ h).resolve_left (by decide)),fun h h9=>OwnBlk.grown (O10.out ((hk _ h).resolve_left (by decide)) (by rwa [getD_set_ne false (by decide)] at h9)) HGN.out HN0.out,fun h=>(have q:=(O11.out ((hk _ h).resolve_left (by decide)));⟨getD_set_true q.1,q.2.imp fun k hk2=>⟨hk2.1,(fun z=>z.grown HGN.out HN0.out) hk2.2⟩⟩)⟩)
  ·intro listed a w2 hI hd hself hun K hK
   obtain ⟨eR,eV,eW,eX,eY,eZ,fA,fB,fC,fD,fE,rfl,hg,hsr,o0,o1,o2,o3,o4,o5,o6,o7,o8,o9,o10,o11⟩:=hI
   have HGG:=Ω hg;have HSR:=Ω hsr;clear hg hsr
   have O0:=Ω o0
   have O1:=Ω o1
   have O2:=Ω o2
   have O3:=Ω o3
   have O4:=Ω o4
   have O5:=Ω o5
   have O6:=Ω o6
   have O7:=Ω o7
   have O8:=Ω o8
   have O9:=Ω o9
   have O10:=Ω o10
   have O11:=Ω o11
   clear o0 o1 o2 o3 o4 o5 o6 o7 o8 o9 o10 o11
   have HD:=Ω hd;have HUN:=Ω hun;clear hd hself hun
   go_simp
   refine hK.out _ _ (fun hk=>⟨_,_,_,_,_,_,_,_,_,_,_,rfl,HGG.out,HSR.out,fun h=>O0.out ((hk _ h).resolve_left (by decide)),fun _=>rfl,fun h=>O2.out ((hk _ h).resolve_left (by decide)),fun h=>O3.out ((hk _ h).resolve_left (by decide)),fun h=>O4.out ((hk _ h).resolve_left (by decide)),fun h=>O5.out ((hk _ h).resolve_left (by decide)),fun h=>O6.out ((hk _ h).resolve_left (by decide)),fun h=>O7.out ((hk _ h).resolve_left (by decide)),fun h=>O8.out ((hk _ h).resolve_left (by decide)),fun h=>O9.out ((hk _ h).resolve_left (by decide)),fun h h9=>O10.out ((hk _ h).resolve_left (by decide)) (by rwa [getD_set_ne false (by decide)] at h9),fun h=>(have q:=(O11.out ((hk _ h).resolve_left (by decide)));⟨getD_set_true q.1,q.2.imp fun k hk2=>⟨hk2.1,(fun z=>z) hk2.2⟩⟩)⟩)
  ·intro listed a w2 hI hd hself hun K hK
   obtain ⟨eR,eV,eW,eX,eY,eZ,fA,fB,fC,fD,fE,rfl,hg,hsr,o0,o1,o2,o3,o4,o5,o6,o7,o8,o9,o10,o11⟩:=hI
   obtain ⟨g,hx,hb,hn⟩:=o0 (hd 0 (by simp))
   have hy:=o1 (hd 1 (by simp))
   subst hx hy
   have HB:=Ω (And.intro hb hn)
   clear hb hn
   have hi1:(i:Int)<3:=by omega
   have hi2:¬(i:Int)<0:=by omega
   have HGG:=Ω hg;have HSR:=Ω hsr;clear hg hsr
   have O0:=Ω o0
   have O1:=Ω o1
   have O2:=Ω o2
   have O3:=Ω o3
   have O4:=Ω o4
   have O5:=Ω o5
   have O6:=Ω o6
   have O7:=Ω o7
   have O8:=Ω o8
   have O9:=Ω o9
   have O10:=Ω o10
   have O11:=Ω o11
   clear o0 o1 o2 o3 o4 o5 o6 o7 o8 o9 o10 o11
   have HD:=Ω hd;have HUN:=Ω hun;clear hd hself hun
   go_simp
   refine hK.out _ _ (fun hk=>⟨_,_,_,_,_,_,_,_,_,_,_,rfl,HGG.out,HSR.out,fun h=>O0.out ((hk _ h).resolve_left (by decide)),fun h=>O1.out ((hk _ h).resolve_left (by decide)),fun _=>⟨g,rfl,HB.out.1,HB.out.2⟩,fun h=>O3.out ((hk _ h).resolve_left (by decide)),fun h=>O4.out ((hk _ h).resolve_left (by decide)),fun h=>O5.out ((hk _ h).resolve_left (by decide)),fun h=>O6.out ((hk _ h).resolve_left (by decide)),fun h=>O7.out ((hk _ h).resolve_left (by decide)),fun h=>O8.out ((hk _ h).resolve_left (by decide)),fun h=>O9.out ((hk _ h).resolve_left (by decide)),fun h h9=>O10.out ((hk _ h).resolve_left (by decide)) (by rwa [getD_set_ne false (by decide)] at h9),fun h=>(have q:=(O11.out ((hk _ h).resolve_left (by decide)));⟨getD_set_true q.1,q.2.imp fun k hk2=>⟨hk2.1,(fun z=>z) hk2.2⟩⟩)⟩)
  ·intro listed a w2 hI hd hself hun K hK
   obtain ⟨eR,eV,eW,eX,eY,eZ,fA,fB,fC,fD,fE,rfl,hg,hsr,o0,o1,o2,o3,o4,o5,o6,o7,o8,o9,o10,o11⟩:=hI
   obtain ⟨g,hx,hb,hn⟩:=o2 (hd 2 (by simp))
   subst hx
   have hcl:=three_cell (f:=fun q=>.string (nmA q)) hb hi rfl rfl rfl
   clear hb hn
   have HGG:=Ω hg;have HSR:=Ω hsr;clear hg hsr
   have O0:=Ω o0
   have O1:=Ω o1
   have O2:=Ω o2
   have O3:=Ω o3
   have O4:=Ω o4
   have O5:=Ω o5
   have O6:=Ω o6
   have O7:=Ω o7
   have O8:=Ω o8
   have O9:=Ω o9
   have O10:=Ω o10
   have O11:=Ω o11
   clear o0 o1 o2 o3 o4 o5 o6 o7 o8 o9 o10 o11
   have HD:=Ω hd;have HUN:=Ω hun;clear hd hself hun
   go_simp
   refine hK.out _ _ (fun hk=>⟨_,_,_,_,_,_,_,_,_,_,_,rfl,HGG.out,HSR.out,fun h=>O0.out ((hk _ h).resolve_left (by decide)),fun h=>O1.out ((hk _ h).resolve_left (by decide)),fun h=>O2.out ((hk _ h).resolve_left (by decide)),fun _=>rfl,fun h=>O4.out ((hk _ h).resolve_left (by decide)),fun h=>O5.out ((hk _ h).resolve_left (by decide)),fun h=>O6.out ((hk _ h).resolve_left (by decide)),fun h=>O7.out ((hk _ h).resolve_left (by decide)),fun h=>O8.out ((hk _ h).resolve_left (by decide)),fun h=>O9.out ((hk _ h).resolve_left (by decide)),fun h h9=>O10.out ((hk _ h).resolve_left (by decide)) (by rwa [getD_set_ne false (by decide)] at h9),fun h=>(have q:=(O11.out ((hk _ h).resolve_left (by decide)));⟨getD_set_true q.1,q.2.imp fun k hk2=>⟨hk2.1,(fun z=>z) hk2.2⟩⟩)⟩)
  ·intro listed a w2 hI hd hself hun K hK
   obtain ⟨eR,eV,eW,eX,eY,eZ,fA,fB,fC,fD,fE,rfl,hg,hsr,o0,o1,o2,o3,o4,o5,o6,o7,o8,o9,o10,o11⟩:=hI
   have HGG:=Ω hg;have HSR:=Ω hsr;clear hg hsr
   have O0:=Ω o0
   have O1:=Ω o1
   have O2:=Ω o2
   have O3:=Ω o3
   have O4:=Ω o4
   have O5:=Ω o5
   have O6:=Ω o6
   have O7:=Ω o7
   have O8:=Ω o8
   have O9:=Ω o9
   have O10:=Ω o10
   have O11:=Ω o11
   clear o0 o1 o2 o3 o4 o5 o6 o7 o8 o9 o10 o11
   have HD:=Ω hd;have HUN:=Ω hun;clear hd hself hun
   go_simp
   have HGN:Hid (w2.grownBy (w2.alloc (.cells #[.int .i64 1,.int .i64 4,.int .i64 10,.int .i64 1000] 3)) (some sb)):=Ω (World.grownBy_alloc _ _ _)
   refine hK.out _ _ (fun hk=>⟨_,_,_,_,_,_,_,_,_,_,_,rfl,HGG.out.trans HGN.out,HSR.out.below (below1 _ _),fun h=>OwnBlk.grown (O0.out ((hk _ h).resolve_left (by decide))) HGN.out HN0.out,fun h=>O1.out ((hk _ h).resolve_left (by decide)),fun h=>OwnBlk.grown (O2.out ((hk _ h).resolve_left (by decide))) HGN.out HN0.out,fun h=>O3.out ((hk _ h).resolve_left (by decide)),fun _=>⟨w2.heap.size,rfl,Blk.new _ _ _,HGG.out.size⟩,fun h=>O5.out ((hk _ h).resolve_left (by decide)),fun h=>O6.out ((hk _ h).resolve_left (by decide)),fun h=>(have q:=(O7.out ((hk _ h).resolve_left (by decide)));q.imp fun k hk2=>⟨hk2.1,hk2.2.grown HGN.out HN0.out⟩),fun h=>O8.out ((hk _ h).resolve_left (by decide)),fun h=>O9.out ((hk _ h).resolve_left (by decide)),fun h h9=>OwnBlk.grown (O10.out ((hk _ h).resolve_left (by decide)) (by rwa [getD_set_ne false (by decide)] at h9)) HGN.out HN0.out,fun h=>(have q:=(O11.out ((hk _ h).resolve_left (by decide)));⟨getD_set_true q.1,q.2.imp fun k hk2=>⟨hk2.1,(fun z=>z.grown HGN.out HN0.out) hk2.2⟩⟩)⟩)
  ·intro listed a w2 hI hd hself hun K hK
   obtain ⟨eR,eV,eW,eX,eY,eZ,fA,fB,fC,fD,fE,rfl,hg,hsr,o0,o1,o2,o3,o4,o5,o6,o7,o8,o9,o10,o11⟩:=hI
   have HGG:=Ω hg;have HSR:=Ω hsr;clear hg hsr
   have O0:=Ω o0
   have O1:=Ω o1
   have O2:=Ω o2
   have O3:=Ω o3
   have O4:=Ω o4
   have O5:=Ω o5
   have O6:=Ω o6
   have O7:=Ω o7
   have O8:=Ω o8
   have O9:=Ω o9
   have O10:=Ω o10
   have O11:=Ω o11
   clear o0 o1 o2 o3 o4 o5 o6 o7 o8 o9 o10 o11
   have HD:=Ω hd;have HUN:=Ω hun;clear hd hself hun
   go_simp
   refine hK.out _ _ (fun hk=>⟨_,_,_,_,_,_,_,_,_,_,_,rfl,HGG.out,HSR.out,fun h=>O0.out ((hk _ h).resolve_left (by decide)),fun h=>O1.out ((hk _ h).resolve_left (by decide)),fun h=>O2.out ((hk _ h).resolve_left (by decide)),fun h=>O3.out ((hk _ h).resolve_left (by decide)),fun h=>O4.out ((hk _ h).resolve_left (by decide)),fun _=>rfl,fun h=>O6.out ((hk _ h).resolve_left (by decide)),fun h=>O7.out ((hk _ h).resolve_left (by decide)),fun h=>O8.out ((hk _ h).resolve_left (by decide)),fun h=>O9.out ((hk _ h).resolve_left (by decide)),fun h h9=>O10.out ((hk _ h).resolve_left (by decide)) (by rwa [getD_set_ne false (by decide)] at h9),fun h=>(have q:=(O11.out ((hk _ h).resolve_left (by decide)));⟨getD_set_true q.1,q.2.imp fun k hk2=>⟨hk2.1,(fun z=>z) hk2.2⟩⟩)⟩)
  ·intro listed a w2 hI hd hself hun K hK
   obtain ⟨eR,eV,eW,eX,eY,eZ,fA,fB,fC,fD,fE,rfl,hg,hsr,o0,o1,o2,o3,o4,o5,o6,o7,o8,o9,o10,o11⟩:=hI
   have hx:=o5 (hd 5 (by simp))
   subst hx
   have HGG:=Ω hg;have HSR:=Ω hsr;clear hg hsr
   have O0:=Ω o0
   have O1:=Ω o1
   have O2:=Ω o2
   have O3:=Ω o3
   have O4:=Ω o4
   have O5:=Ω o5
   have O6:=Ω o6
   have O7:=Ω o7
   have O8:=Ω o8
   have O9:=Ω o9
   have O10:=Ω o10
   have O11:=Ω o11
   clear o0 o1 o2 o3 o4 o5 o6 o7 o8 o9 o10 o11
   have HD:=Ω hd;have HUN:=Ω hun;clear hd hself hun
   go_simp
   refine (next_any w2 sb 4 (by omega) HSR.out).mono ?_
   rintro e w3 ⟨⟨q,hq,rfl⟩,hs3,hg3⟩
   have HS3:=Ω hs3
   have HG3:=Ω hg3
   clear hs3 hg3
   have HGN:Hid (w2.grownBy w3 (some sb)):=Ω (HG3.out)
   refine hK.out _ _ (fun hk=>⟨_,_,_,_,_,_,_,_,_,_,_,rfl,HGG.out.trans HGN.out,HS3.out,fun h=>OwnBlk.grown (O0.out ((hk _ h).resolve_left (by decide))) HGN.out HN0.out,fun h=>O1.out ((hk _ h).resolve_left (by decide)),fun h=>OwnBlk.grown (O2.out ((hk _ h).resolve_left (by decide))) HGN.out HN0.out,fun h=>O3.out ((hk _ h).resolve_left (by decide)),fun h=>OwnBlk.grown (O4.out ((hk _ h).resolve_left (by decide))) HGN.out HN0.out,fun h=>O5.out ((hk _ h).resolve_left (by decide)),fun _=>⟨q,hq,rfl⟩,fun h=>(have q:=(O7.out ((hk _ h).resolve_left (by decide)));q.imp fun k hk2=>⟨hk2.1,hk2.2.grown HGN.out HN0.out⟩),fun h=>O8.out ((hk _ h).resolve_left (by decide)),fun h=>O9.out ((hk _ h).resolve_left (by decide)),fun h h9=>OwnBlk.grown (O10.out ((hk _ h).resolve_left (by decide)) (by rwa [getD_set_ne false (by decide)] at h9)) HGN.out HN0.out,fun h=>(have q:=(O11.out ((hk _ h).resolve_left (by decide)));⟨getD_set_true q.1,q.2.imp fun k hk2=>⟨hk2.1,(fun z=>z.grown HGN.out HN0.out) hk2.2⟩⟩)⟩)
  ·intro listed a w2 hI hd hself hun K hK
   obtain ⟨eR,eV,eW,eX,eY,eZ,fA,fB,fC,fD,fE,rfl,hg,hsr,o0,o1,o2,o3,o4,o5,o6,o7,o8,o9,o10,o11⟩:=hI
   obtain ⟨g,hx,hb,hn⟩:=o4 (hd 4 (by simp))
   obtain ⟨q,hq,hy⟩:=o6 (hd 6 (by simp))
   subst hx hy
   have HB:=Ω (And.intro hb hn)
   clear hb hn
   have hi1:(q:Int)<4:=by omega
   have hi2:¬(q:Int)<0:=by omega
   have HGG:=Ω hg;have HSR:=Ω hsr;clear hg hsr
   have O0:=Ω o0
   have O1:=Ω o1
   have O2:=Ω o2
   have O3:=Ω o3
   have O4:=Ω o4
   have O5:=Ω o5
   have O6:=Ω o6
   have O7:=Ω o7
   have O8:=Ω o8
   have O9:=Ω o9
   have O10:=Ω o10
   have O11:=Ω o11
   clear o0 o1 o2 o3 o4 o5 o6 o7 o8 o9 o10 o11
   have HD:=Ω hd;have HUN:=Ω hun;clear hd hself hun
   go_simp
   refine hK.out _ _ (fun hk=>⟨_,_,_,_,_,_,_,_,_,_,_,rfl,HGG.out,HSR.out,fun h=>O0.out ((hk _ h).resolve_left (by decide)),fun h=>O1.out ((hk _ h).resolve_left (by decide)),fun h=>O2.out ((hk _ h).resolve_left (by decide)),fun h=>O3.out ((hk _ h).resolve_left (by decide)),fun h=>O4.out ((hk _ h).resolve_left (by decide)),fun h=>O5.out ((hk _ h).resolve_left (by decide)),fun h=>O6.out ((hk _ h).resolve_left (by decide)),fun _=>⟨q,hq,g,rfl,HB.out.1,HB.out.2⟩,fun h=>O8.out ((hk _ h).resolve_left (by decide)),fun h=>O9.out ((hk _ h).resolve_left (by decide)),fun h h9=>O10.out ((hk _ h).resolve_left (by decide)) (by rwa [getD_set_ne false (by decide)] at h9),fun h=>(have q:=(O11.out ((hk _ h).resolve_left (by decide)));⟨getD_set_true q.1,q.2.imp fun k hk2=>⟨hk2.1,(fun z=>z) hk2.2⟩⟩)⟩)
  ·intro listed a w2 hI hd hself hun K hK
   obtain ⟨eR,eV,eW,eX,eY,eZ,fA,fB,fC,fD,fE,rfl,hg,hsr,o0,o1,o2,o3,o4,o5,o6,o7,o8,o9,o10,o11⟩:=hI
   obtain ⟨q,hq,g,hx,hb,hn⟩:=o7 (hd 7 (by simp))
   subst hx
   obtain ⟨v,hv,hcl⟩:=four_cell hb hq
   have HV:=Ω hv
   clear hb hn hv
   have HGG:=Ω hg;have HSR:=Ω hsr;clear hg hsr
   have O0:=Ω o0
   have O1:=Ω o1
   have O2:=Ω o2
   have O3:=Ω o3
   have O4:=Ω o4
   have O5:=Ω o5
   have O6:=Ω o6
   have O7:=Ω o7
   have O8:=Ω o8
   have O9:=Ω o9
   have O10:=Ω o10
   have O11:=Ω o11
   clear o0 o1 o2 o3 o4 o5 o6 o7 o8 o9 o10 o11
   have HD:=Ω hd;have HUN:=Ω hun;clear hd hself hun
   go_simp
   refine hK.out _ _ (fun hk=>⟨_,_,_,_,_,_,_,_,_,_,_,rfl,HGG.out,HSR.out,fun h=>O0.out ((hk _ h).resolve_left (by decide)),fun h=>O1.out ((hk _ h).resolve_left (by decide)),fun h=>O2.out ((hk _ h).resolve_left (by decide)),fun h=>O3.out ((hk _ h).resolve_left (by decide)),fun h=>O4.out ((hk _ h).resolve_left (by decide)),fun h=>O5.out ((hk _ h).resolve_left (by decide)),fun h=>O6.out ((hk _ h).resolve_left (by decide)),fun h=>O7.out ((hk _ h).resolve_left (by decide)),fun _=>⟨v,HV.out,rfl⟩,fun h=>O9.out ((hk _ h).resolve_left (by decide)),fun h h9=>O10.out ((hk _ h).resolve_left (by decide)) (by rwa [getD_set_ne false (by decide)] at h9),fun h=>(have q:=(O11.out ((hk _ h).resolve_left (by decide)));⟨getD_set_true q.1,q.2.imp fun k hk2=>⟨hk2.1,(fun z=>z) hk2.2⟩⟩)⟩)
  ·intro listed a w2 hI hd hself hun K hK
   obtain ⟨eR,eV,eW,eX,eY,eZ,fA,fB,fC,fD,fE,rfl,hg,hsr,o0,o1,o2,o3,o4,o5,o6,o7,o8,o9,o10,o11⟩:=hI
   have hx:=o3 (hd 3 (by simp))
   obtain ⟨v,hv,hy⟩:=o8 (hd 8 (by simp))
   subst hx hy
   have HV:=Ω hv
   clear hv
   have HGG:=Ω hg;have HSR:=Ω hsr;clear hg hsr
   have O0:=Ω o0
   have O1:=Ω o1
   have O2:=Ω o2
   have O3:=Ω o3
   have O4:=Ω o4
   have O5:=Ω o5
   have O6:=Ω o6
   have O7:=Ω o7
   have O8:=Ω o8
   have O9:=Ω o9
   have O10:=Ω o10
   have O11:=Ω o11
   clear o0 o1 o2 o3 o4 o5 o6 o7 o8 o9 o10 o11
   have HD:=Ω hd;have HUN:=Ω hun;clear hd hself hun
   go_simp
   refine hK.out _ _ (fun hk=>⟨_,_,_,_,_,_,_,_,_,_,_,rfl,HGG.out,HSR.out,fun h=>O0.out ((hk _ h).resolve_left (by decide)),fun h=>O1.out ((hk _ h).resolve_left (by decide)),fun h=>O2.out ((hk _ h).resolve_left (by decide)),fun h=>O3.out ((hk _ h).resolve_left (by decide)),fun h=>O4.out ((hk _ h).resolve_left (by decide)),fun h=>O5.out ((hk _ h).resolve_left (by decide)),fun h=>O6.out ((hk _ h).resolve_left (by decide)),fun h=>O7.out ((hk _ h).resolve_left (by decide)),fun h=>O8.out ((hk _ h).resolve_left (by decide)),fun _=>⟨v,HV.out,rfl⟩,fun h h9=>O10.out ((hk _ h).resolve_left (by decide)) (by rwa [getD_set_ne false (by decide)] at h9),fun h=>(have q:=(O11.out ((hk _ h).resolve_left (by decide)));⟨getD_set_true q.1,q.2.imp fun k hk2=>⟨hk2.1,(fun z=>z) hk2.2⟩⟩)⟩)
  ·intro listed a w2 hI hd hself hun K hK
   obtain ⟨eR,eV,eW,eX,eY,eZ,fA,fB,fC,fD,fE,rfl,hg,hsr,o0,o1,o2,o3,o4,o5,o6,o7,o8,o9,o10,o11⟩:=hI
   have HGG:=Ω hg;have HSR:=Ω hsr;clear hg hsr
   have O0:=Ω o0
   have O1:=Ω o1
   have O2:=Ω o2
   have O3:=Ω o3
   have O4:=Ω o4
   have O5:=Ω o5
   have O6:=Ω o6
   have O7:=Ω o7
   have O8:=Ω o8
   have O9:=Ω o9
   have O10:=Ω o10
   have O11:=Ω o11
   clear o0 o1 o2 o3 o4 o5 o6 o7 o8 o9 o10 o11
   have HD:=Ω hd;have HUN:=Ω hun;clear hd hself hun
   go_simp
   have HGN:Hid (w2.grownBy (w2.alloc (.cells #[.string ⟨#[]⟩,.int .i64 0] 53)) (some sb)):=Ω (World.grownBy_alloc _ _ _)
   refine hK.out _ _ (fun hk=>⟨_,_,_,_,_,_,_,_,_,_,_,rfl,HGG.out.trans HGN.out,HSR.out.below (below1 _ _),fun h=>OwnBlk.grown (O0.out ((hk _ h).resolve_left (by decide))) HGN.out HN0.out,fun h=>O1.out ((hk _ h).resolve_left (by decide)),fun h=>OwnBlk.grown (O2.out ((hk _ h).resolve_left (by decide))) HGN.out HN0.out,fun h=>O3.out ((hk _ h).resolve_left (by decide)),fun h=>OwnBlk.grown (O4.out ((hk _ h).resolve_left (by decide))) HGN.out HN0.out,fun h=>O5.out ((hk _ h).resolve_left (by decide)),fun h=>O6.out ((hk _ h).resolve_left (by decide)),fun h=>(have q:=(O7.out ((hk _ h).resolve_left (by decide)));q.imp fun k hk2=>⟨hk2.1,hk2.2.grown HGN.out HN0.out⟩),fun h=>O8.out ((hk _ h).resolve_left (by decide)),fun h=>O9.out ((hk _ h).resolve_left (by decide)),fun _=>fun _=>⟨w2.heap.size,rfl,Blk.new _ _ _,HGG.out.size⟩,fun h=>absurd (O11.out ((hk _ h).resolve_left (by decide))).1 (by rw [HUN.out];decide)⟩)
  ·intro listed a w2 hI hd hself hun K hK
   obtain ⟨eR,eV,eW,eX,eY,eZ,fA,fB,fC,fD,fE,rfl,hg,hsr,o0,o1,o2,o3,o4,o5,o6,o7,o8,o9,o10,o11⟩:=hI
   obtain ⟨v,hv,hy⟩:=o9 (hd 9 (by simp))
   obtain ⟨g,hx,hb,hn⟩:=o10 (hd 10 (by simp)) hun
   subst hx hy
   have c0:=hb.cell 0;have c1:=hb.cell 1;have z0:=hb.frozen 0;have z1:=hb.frozen 1
   have HB:=Ω (And.intro hb hn)
   have HV:=Ω hv
   clear hb hn hv
   have HGG:=Ω hg;have HSR:=Ω hsr;clear hg hsr
   have O0:=Ω o0
   have O1:=Ω o1
   have O2:=Ω o2
   have O3:=Ω o3
   have O4:=Ω o4
   have O5:=Ω o5
   have O6:=Ω o6
   have O7:=Ω o7
   have O8:=Ω o8
   have O9:=Ω o9
   have O10:=Ω o10
   have O11:=Ω o11
   clear o0 o1 o2 o3 o4 o5 o6 o7 o8 o9 o10 o11
   have hk0:Hid ((listed.setIfInBounds 11 true).getD 11 false=true):=Ω hself
   have HD:=Ω hd;have HUN:=Ω hun;clear hd hself hun
   go_simp
   refine hK.out _ _ (fun hk=>⟨_,_,_,_,_,_,_,_,_,_,_,rfl,grown_own (grown_own HGG.out g HB.out.2 0 _) g HB.out.2 1 _,src_far2 HSR.out (ltle HN0.out HB.out.2),fun h=>OwnBlk.far2 (O0.out ((hk _ h).resolve_left (by decide))) HB.out.1 (by decide) 0 1 _ _,fun h=>O1.out ((hk _ h).resolve_left (by decide)),fun h=>OwnBlk.far2 (O2.out ((hk _ h).resolve_left (by decide))) HB.out.1 (by decide) 0 1 _ _,fun h=>O3.out ((hk _ h).resolve_left (by decide)),fun h=>OwnBlk.far2 (O4.out ((hk _ h).resolve_left (by decide))) HB.out.1 (by decide) 0 1 _ _,fun h=>O5.out ((hk _ h).resolve_left (by decide)),fun h=>O6.out ((hk _ h).resolve_left (by decide)),fun h=>(have q:=O7.out ((hk _ h).resolve_left (by decide));q.imp fun k hk2=>⟨hk2.1,hk2.2.far2 HB.out.1 (by decide) 0 1 _ _⟩),fun h=>O8.out ((hk _ h).resolve_left (by decide)),fun h=>O9.out ((hk _ h).resolve_left (by decide)),fun _ h9=>absurd h9 (by rw [hk0.out];decide),fun _=>⟨getD_set_true (HD.out 10 (by simp)),v,HV.out,g,rfl,(HB.out.1.set_ 0 _).set_ 1 _,HB.out.2⟩⟩)
 ·intro listed a w2 hI hall
  obtain ⟨eR,eV,eW,eX,eY,eZ,fA,fB,fC,fD,fE,rfl,hg,hsr,o0,o1,o2,o3,o4,o5,o6,o7,o8,o9,o10,o11⟩:=hI
  obtain ⟨_,v,hv,g,hx,hb,hn⟩:=o11 (hall 11 (by omega))
  subst hx
  exact HKK.out _ _ _ _ _ _ _ _ _ _ _ g v hg hsr hb hn hv
def HeadAt (n0:Nat) (w:World) (i k:Nat) (x:Value):Prop:=∃g g2:Nat,x=.pointer (some ⟨g,0,none⟩)∧Blk w g 49 #[.string (nmF i),.slice (some ⟨g2,0,none⟩) k 6,.slice none 0 0,.slice none 0 0]∧n0≤g∧Blk w g2 9 #[.string ⟨#[112]⟩,.string ⟨#[113]⟩,.string ⟨#[114]⟩,.string ⟨#[115]⟩,.string ⟨#[116]⟩,.string ⟨#[117]⟩]∧n0≤g2
theorem HeadAt.grown {n0 sb:Nat} {w w':World} {i k:Nat} {x:Value} (h:HeadAt n0 w i k x) (hg:w.grownBy w' (some sb)) (hs:sb<n0):HeadAt n0 w' i k x:=by
 obtain ⟨g,g2,hx,hb,hn,hb2,hn2⟩:=h
 exact ⟨g,g2,hx,hb.grown hg (fun e=>by have:=sj e;omega),hn,hb2.grown hg (fun e=>by have:=sj e;omega),hn2⟩
set_option maxRecDepth 100000 in
set_option maxHeartbeats 8000000 in
theorem r18_any (cc:Code) (hc:(Tryz.f11.body.bind (regOf 18))=some cc) (Y:World) {sb i:Nat} (hi:i<3) (hsr:SrcAt Y sb)
  (Q:Exit→Act→World→Prop) (aA aB aC aD aE aF aG aH aI aK aL aM aN aO aP aQ aR aS aT aU aV aW aX aY aZ bA bB bC bD bE bF bG bH bI bJ bK bL bM bN bO bP bQ bR bS bT bU bV bW bX bY bZ cA cB cC cD cE cF cG cH cI cJ cK cL cM cN cO cP cQ cR cS cT cU cV cW cX cY cZ dA dB dC dD dE dG dH dI dJ dK dL dM dN dO dP dQ dR dS dU dV dW dX dY dZ eA eB eC eD eE eF eG eH eI eJ eK eL eM eN eO eP eQ:Value)
  (hK:∀(eS fP fQ fR fS fT fU fV fW fX:Value) (w':World),(∃k:Nat,k<7∧HeadAt Y.heap.size w' i k eS)→Y.grownBy w' (some sb)→SrcAt w' sb→Q .normal { tmps:=#[aA,aB,aC,aD,aE,.pointer (some ⟨sb,0,none⟩),aF,aG,aH,aI,.int .i64 (i:Int),eS,aL,aM,aN,aO,aP,aQ,aR,aS,aT,aU,aV,aW,aX,aY,aZ,bA,bB,bC,bD,bE,bF,bG,bH,bI,bJ,bK,bL,bM,bN,bO,bP,bQ,bR,bS,bT,bU,bV,bW,bX,bY,bZ,cA,cB,cC,cD,cE,cF,cG,cH,cI,cJ,cK,cL,cM,cN,cO,cP,fP,fQ,fR,fS,fT,fU,fV,fW,fX,cZ,dA,dB,dC,dD,dE,dG,dH,dI,dJ,dK,dL,dM,dN,dO,dP,dQ,dR,dS,dU,dV,dW,dX,dY,dZ,eA,eB,eC,eD,eE,eF,eG,eH,eI,eJ,eK,eL,eM,eN,eO,eP,eQ],defers:=[] } w'):cc.wp Tryz.prog Q { tmps:=#[aA,aB,aC,aD,aE,.pointer (some ⟨sb,0,none⟩),aF,aG,aH,aI,.int .i64 (i:Int),aK,aL,aM,aN,aO,aP,aQ,aR,aS,aT,aU,aV,aW,aX,aY,aZ,bA,bB,bC,bD,bE,bF,bG,bH,bI,bJ,bK,bL,bM,bN,bO,bP,bQ,bR,bS,bT,bU,bV,bW,bX,bY,bZ,cA,cB,cC,cD,cE,cF,cG,cH,cI,cJ,cK,cL,cM,cN,cO,cP,cQ,cR,cS,cT,cU,cV,cW,cX,cY,cZ,dA,dB,dC,dD,dE,dG,dH,dI,dJ,dK,dL,dM,dN,dO,dP,dQ,dR,dS,dU,dV,dW,dX,dY,dZ,eA,eB,eC,eD,eE,eF,eG,eH,eI,eJ,eK,eL,eM,eN,eO,eP,eQ],defers:=[] } Y:=by
 have HKK:=Ω hK
 have hcc:Tryz.f11.body.bind (regOf 18)=some cc:=hc
 simp only [Tryz.f11,regOf,Nat.reduceEqDiff,Option.bind_some,↓reduceIte,Option.none_or,Option.or_none,Option.some.injEq] at hcc
 subst hcc
 clear hc hK
 have HSRC:=Ω hsr
 have HI:=Ω hi
 have HN0:Hid (sb<Y.heap.size):=Ω hsr.lt
 clear hsr
 refine wp_region_I (by kernel_rfl) (fun (listed:Array Bool) (a:Act) (w2:World)=>∃eS fP fQ fR fS fT fU fV fW fX:Value,a=⟨#[aA,aB,aC,aD,aE,.pointer (some ⟨sb,0,none⟩),aF,aG,aH,aI,.int .i64 (i:Int),eS,aL,aM,aN,aO,aP,aQ,aR,aS,aT,aU,aV,aW,aX,aY,aZ,bA,bB,bC,bD,bE,bF,bG,bH,bI,bJ,bK,bL,bM,bN,bO,bP,bQ,bR,bS,bT,bU,bV,bW,bX,bY,bZ,cA,cB,cC,cD,cE,cF,cG,cH,cI,cJ,cK,cL,cM,cN,cO,cP,fP,fQ,fR,fS,fT,fU,fV,fW,fX,cZ,dA,dB,dC,dD,dE,dG,dH,dI,dJ,dK,dL,dM,dN,dO,dP,dQ,dR,dS,dU,dV,dW,dX,dY,dZ,eA,eB,eC,eD,eE,eF,eG,eH,eI,eJ,eK,eL,eM,eN,eO,eP,eQ],[]⟩∧Y.grownBy w2 (some sb)∧SrcAt w2 sb∧(listed.getD 0 false=true→OwnBlk Y.heap.size w2 9 #[.string ⟨#[102]⟩,.string ⟨#[103]⟩,.string ⟨#[104]⟩] (fun g=>.slice (some ⟨g,0,none⟩) 3 3) fP)∧(listed.getD 1 false=true→fQ=.int .i64 (i:Int))∧(listed.getD 2 false=true→OwnBlk Y.heap.size w2 9 #[.string ⟨#[102]⟩,.string ⟨#[103]⟩,.string ⟨#[104]⟩] (fun g=>.pointer (some ⟨g,i,none⟩)) fR)∧(listed.getD 3 false=true→fS=.string (nmF i))∧(listed.getD 4 false=true→OwnBlk Y.heap.size w2 9 #[.string ⟨#[112]⟩,.string ⟨#[113]⟩,.string ⟨#[114]⟩,.string ⟨#[115]⟩,.string ⟨#[116]⟩,.string ⟨#[117]⟩] (fun g=>.slice (some ⟨g,0,none⟩) 6 6) fT)∧(listed.getD 5 false=true→fU=.pointer (some ⟨sb,0,none⟩))∧(listed.getD 6 false=true→∃k:Nat,k<7∧fV=.int .i64 (k:Int))∧(listed.getD 7 false=true→∃k:Nat,k<7∧OwnBlk Y.heap.size w2 9 #[.string ⟨#[112]⟩,.string ⟨#[113]⟩,.string ⟨#[114]⟩,.string ⟨#[115]⟩,.string ⟨#[116]⟩,.string ⟨#[117]⟩] (fun g=>.slice (some ⟨g,0,none⟩) k 6) fW)∧(listed.getD 8 false=true→∃k:Nat,k<7∧OwnBlk Y.heap.size w2 9 #[.string ⟨#[112]⟩,.string ⟨#[113]⟩,.string ⟨#[114]⟩,.string ⟨#[115]⟩,.string ⟨#[116]⟩,.string ⟨#[117]⟩] (fun g=>.agg #[.string (nmF i),.slice (some ⟨g,0,none⟩) k 6,.slice none 0 0,.slice none 0 0]) fX)∧(listed.getD 9 false=true→listed.getD 10 false=false→OwnBlk Y.heap.size w2 49 #[.string ⟨#[]⟩,.slice none 0 0,.slice none 0 0,.slice none 0 0] (fun g=>.pointer (some ⟨g,0,none⟩)) eS)∧(listed.getD 10 false=true→listed.getD 9 false=true∧∃k:Nat,k<7∧HeadAt Y.heap.size w2 i k eS)) 11 rfl (by kernel_rfl) ?_ ?_ ?_
 ·intro hno
  exact ⟨_,_,_,_,_,_,_,_,_,_,rfl,grown_below' (Below.refl _ _).drew,HSRC.out.below (Below.refl _ _).drew,fun h=>(hno _ h).elim,fun h=>(hno _ h).elim,fun h=>(hno _ h).elim,fun h=>(hno _ h).elim,fun h=>(hno _ h).elim,fun h=>(hno _ h).elim,fun h=>(hno _ h).elim,fun h=>(hno _ h).elim,fun h=>(hno _ h).elim,fun h=>(hno _ h).elim,fun h=>(hno _ h).elim⟩
 ·refine StepsI.cons [] rfl (by kernel_rfl) ?_ (StepsI.cons [] rfl (by kernel_rfl) ?_ (StepsI.cons [0,1] rfl (by kernel_rfl) ?_ (StepsI.cons [2] rfl (by kernel_rfl) ?_ (StepsI.cons [] rfl (by kernel_rfl) ?_ (StepsI.cons [] rfl (by kernel_rfl) ?_ (StepsI.cons [5] rfl (by kernel_rfl) ?_ (StepsI.cons [4,6] rfl (by kernel_rfl) ?_ (StepsI.cons [3,7] rfl (by kernel_rfl) ?_ (StepsI.cons [] rfl (by kernel_rfl) ?_ (StepsI.cons [9,8,6,0,1,2,3,4,5,6,7,8,9] rfl (by kernel_rfl) ?_ StepsI.nil))))))))))
  ·intro listed a w2 hI hd hself hun K hK
   obtain ⟨eS,fP,fQ,fR,fS,fT,fU,fV,fW,fX,rfl,hg,hsr,o0,o1,o2,o3,o4,o5,o6,o7,o8,o9,o10⟩:=hI
   have HGG:=Ω hg;have HSR:=Ω hsr;clear hg hsr
   have O0:=Ω o0
   have O1:=Ω o1
   have O2:=Ω o2
   have O3:=Ω o3
   have O4:=Ω o4
   have O5:=Ω o5
   have O6:=Ω o6
   have O7:=Ω o7
   have O8:=Ω o8
   have O9:=Ω o9
   have O10:=Ω o10
   clear o0 o1 o2 o3 o4 o5 o6 o7 o8 o9 o10
   have HD:=Ω hd;have HUN:=Ω hun;clear hd hself hun
   go_simp
   have HGN:Hid (w2.grownBy (w2.alloc (.cells #[.string ⟨#[102]⟩,.string ⟨#[103]⟩,.string ⟨#[104]⟩] 9)) (some sb)):=Ω (World.grownBy_alloc _ _ _)
   refine hK.out _ _ (fun hk=>⟨_,_,_,_,_,_,_,_,_,_,rfl,HGG.out.trans HGN.out,HSR.out.below (below1 _ _),fun _=>⟨w2.heap.size,rfl,Blk.new _ _ _,HGG.out.size⟩,fun h=>O1.out ((hk _ h).resolve_left (by decide)),fun h=>OwnBlk.grown (O2.out ((hk _ h).resolve_left (by decide))) HGN.out HN0.out,fun h=>O3.out ((hk _ h).resolve_left (by decide)),fun h=>OwnBlk.grown (O4.out ((hk _ h).resolve_left (by decide))) HGN.out HN0.out,fun h=>O5.out ((hk _ h).resolve_left (by decide)),fun h=>O6.out ((hk _ h).resolve_left (by decide)),fun h=>(have q:=(O7.out ((hk _ h).resolve_left (by decide)));q.imp fun k hk2=>⟨hk2.1,hk2.2.grown HGN.out HN0.out⟩),fun h=>(have q:=(O8.out ((hk _ h).resolve_left (by decide)));q.imp fun k hk2=>⟨hk2.1,hk2.2.grown HGN.out HN0.out⟩),fun h h9=>OwnBlk.grown (O9.out ((hk _ h).resolve_left (by decide)) (by rwa [getD_set_ne false (by decide)] at h9)) HGN.out HN0.out,fun h=>(have q:=(O10.out ((hk _ h).resolve_left (by decide)));⟨getD_set_true q.1,q.2.imp fun k hk2=>⟨hk2.1,(fun z=>z.grown HGN.out HN0.out) hk2.2⟩⟩)⟩)
  ·intro listed a w2 hI hd hself hun K hK
   obtain ⟨eS,fP,fQ,fR,fS,fT,fU,fV,fW,fX,rfl,hg,hsr,o0,o1,o2,o3,o4,o5,o6,o7,o8,o9,o10⟩:=hI
   have HGG:=Ω hg;have HSR:=Ω hsr;clear hg hsr
   have O0:=Ω o0
   have O1:=Ω o1
   have O2:=Ω o2
   have O3:=Ω o3
   have O4:=Ω o4
   have O5:=Ω o5
   have O6:=Ω o6
   have O7:=Ω o7
   have O8:=Ω o8
   have O9:=Ω o9
   have O10:=Ω o10
   clear o0 o1 o2 o3 o4 o5 o6 o7 o8 o9 o10
   have HD:=Ω hd;have HUN:=Ω hun;clear hd hself hun
   go_simp
   refine hK.out _ _ (fun hk=>⟨_,_,_,_,_,_,_,_,_,_,rfl,HGG.out,HSR.out,fun h=>O0.out ((hk _ h).resolve_left (by decide)),fun _=>rfl,fun h=>O2.out ((hk _ h).resolve_left (by decide)),fun h=>O3.out ((hk _ h).resolve_left (by decide)),fun h=>O4.out ((hk _ h).resolve_left (by decide)),fun h=>O5.out ((hk _ h).resolve_left (by decide)),fun h=>O6.out ((hk _ h).resolve_left (by decide)),fun h=>O7.out ((hk _ h).resolve_left (by decide)),fun h=>O8.out ((hk _ h).resolve_left (by decide)),fun h h9=>O9.out ((hk _ h).resolve_left (by decide)) (by rwa [getD_set_ne false (by decide)] at h9),fun h=>(have q:=(O10.out ((hk _ h).resolve_left (by decide)));⟨getD_set_true q.1,q.2.imp fun k hk2=>⟨hk2.1,(fun z=>z) hk2.2⟩⟩)⟩)
  ·intro listed a w2 hI hd hself hun K hK
   obtain ⟨eS,fP,fQ,fR,fS,fT,fU,fV,fW,fX,rfl,hg,hsr,o0,o1,o2,o3,o4,o5,o6,o7,o8,o9,o10⟩:=hI
   obtain ⟨g,hx,hb,hn⟩:=o0 (hd 0 (by simp))
   have hy:=o1 (hd 1 (by simp))
   subst hx hy
   have HB:=Ω (And.intro hb hn)
   clear hb hn
   have hi1:(i:Int)<3:=by omega
   have hi2:¬(i:Int)<0:=by omega
   have HGG:=Ω hg;have HSR:=Ω hsr;clear hg hsr
   have O0:=Ω o0
   have O1:=Ω o1
   have O2:=Ω o2
   have O3:=Ω o3
   have O4:=Ω o4
   have O5:=Ω o5
   have O6:=Ω o6
   have O7:=Ω o7
   have O8:=Ω o8
   have O9:=Ω o9
   have O10:=Ω o10
   clear o0 o1 o2 o3 o4 o5 o6 o7 o8 o9 o10
   have HD:=Ω hd;have HUN:=Ω hun;clear hd hself hun
   go_simp
   refine hK.out _ _ (fun hk=>⟨_,_,_,_,_,_,_,_,_,_,rfl,HGG.out,HSR.out,fun h=>O0.out ((hk _ h).resolve_left (by decide)),fun h=>O1.out ((hk _ h).resolve_left (by decide)),fun _=>⟨g,rfl,HB.out.1,HB.out.2⟩,fun h=>O3.out ((hk _ h).resolve_left (by decide)),fun h=>O4.out ((hk _ h).resolve_left (by decide)),fun h=>O5.out ((hk _ h).resolve_left (by decide)),fun h=>O6.out ((hk _ h).resolve_left (by decide)),fun h=>O7.out ((hk _ h).resolve_left (by decide)),fun h=>O8.out ((hk _ h).resolve_left (by decide)),fun h h9=>O9.out ((hk _ h).resolve_left (by decide)) (by rwa [getD_set_ne false (by decide)] at h9),fun h=>(have q:=(O10.out ((hk _ h).resolve_left (by decide)));⟨getD_set_true q.1,q.2.imp fun k hk2=>⟨hk2.1,(fun z=>z) hk2.2⟩⟩)⟩)
  ·intro listed a w2 hI hd hself hun K hK
   obtain ⟨eS,fP,fQ,fR,fS,fT,fU,fV,fW,fX,rfl,hg,hsr,o0,o1,o2,o3,o4,o5,o6,o7,o8,o9,o10⟩:=hI
   obtain ⟨g,hx,hb,hn⟩:=o2 (hd 2 (by simp))
   subst hx
   have hcl:=three_cell (f:=fun q=>.string (nmF q)) hb hi rfl rfl rfl
   clear hb hn
   have HGG:=Ω hg;have HSR:=Ω hsr;clear hg hsr
   have O0:=Ω o0
   have O1:=Ω o1
   have O2:=Ω o2
   have O3:=Ω o3
   have O4:=Ω o4
   have O5:=Ω o5
   have O6:=Ω o6
   have O7:=Ω o7
   have O8:=Ω o8
   have O9:=Ω o9
   have O10:=Ω o10
   clear o0 o1 o2 o3 o4 o5 o6 o7 o8 o9 o10
   have HD:=Ω hd;have HUN:=Ω hun;clear hd hself hun
   go_simp
   refine hK.out _ _ (fun hk=>⟨_,_,_,_,_,_,_,_,_,_,rfl,HGG.out,HSR.out,fun h=>O0.out ((hk _ h).resolve_left (by decide)),fun h=>O1.out ((hk _ h).resolve_left (by decide)),fun h=>O2.out ((hk _ h).resolve_left (by decide)),fun _=>rfl,fun h=>O4.out ((hk _ h).resolve_left (by decide)),fun h=>O5.out ((hk _ h).resolve_left (by decide)),fun h=>O6.out ((hk _ h).resolve_left (by decide)),fun h=>O7.out ((hk _ h).resolve_left (by decide)),fun h=>O8.out ((hk _ h).resolve_left (by decide)),fun h h9=>O9.out ((hk _ h).resolve_left (by decide)) (by rwa [getD_set_ne false (by decide)] at h9),fun h=>(have q:=(O10.out ((hk _ h).resolve_left (by decide)));⟨getD_set_true q.1,q.2.imp fun k hk2=>⟨hk2.1,(fun z=>z) hk2.2⟩⟩)⟩)
  ·intro listed a w2 hI hd hself hun K hK
   obtain ⟨eS,fP,fQ,fR,fS,fT,fU,fV,fW,fX,rfl,hg,hsr,o0,o1,o2,o3,o4,o5,o6,o7,o8,o9,o10⟩:=hI
   have HGG:=Ω hg;have HSR:=Ω hsr;clear hg hsr
   have O0:=Ω o0
   have O1:=Ω o1
   have O2:=Ω o2
   have O3:=Ω o3
   have O4:=Ω o4
   have O5:=Ω o5
   have O6:=Ω o6
   have O7:=Ω o7
   have O8:=Ω o8
   have O9:=Ω o9
   have O10:=Ω o10
   clear o0 o1 o2 o3 o4 o5 o6 o7 o8 o9 o10
   have HD:=Ω hd;have HUN:=Ω hun;clear hd hself hun
   go_simp
   have HGN:Hid (w2.grownBy (w2.alloc (.cells #[.string ⟨#[112]⟩,.string ⟨#[113]⟩,.string ⟨#[114]⟩,.string ⟨#[115]⟩,.string ⟨#[116]⟩,.string ⟨#[117]⟩] 9)) (some sb)):=Ω (World.grownBy_alloc _ _ _)
   refine hK.out _ _ (fun hk=>⟨_,_,_,_,_,_,_,_,_,_,rfl,HGG.out.trans HGN.out,HSR.out.below (below1 _ _),fun h=>OwnBlk.grown (O0.out ((hk _ h).resolve_left (by decide))) HGN.out HN0.out,fun h=>O1.out ((hk _ h).resolve_left (by decide)),fun h=>OwnBlk.grown (O2.out ((hk _ h).resolve_left (by decide))) HGN.out HN0.out,fun h=>O3.out ((hk _ h).resolve_left (by decide)),fun _=>⟨w2.heap.size,rfl,Blk.new _ _ _,HGG.out.size⟩,fun h=>O5.out ((hk _ h).resolve_left (by decide)),fun h=>O6.out ((hk _ h).resolve_left (by decide)),fun h=>(have q:=(O7.out ((hk _ h).resolve_left (by decide)));q.imp fun k hk2=>⟨hk2.1,hk2.2.grown HGN.out HN0.out⟩),fun h=>(have q:=(O8.out ((hk _ h).resolve_left (by decide)));q.imp fun k hk2=>⟨hk2.1,hk2.2.grown HGN.out HN0.out⟩),fun h h9=>OwnBlk.grown (O9.out ((hk _ h).resolve_left (by decide)) (by rwa [getD_set_ne false (by decide)] at h9)) HGN.out HN0.out,fun h=>(have q:=(O10.out ((hk _ h).resolve_left (by decide)));⟨getD_set_true q.1,q.2.imp fun k hk2=>⟨hk2.1,(fun z=>z.grown HGN.out HN0.out) hk2.2⟩⟩)⟩)
  ·intro listed a w2 hI hd hself hun K hK
   obtain ⟨eS,fP,fQ,fR,fS,fT,fU,fV,fW,fX,rfl,hg,hsr,o0,o1,o2,o3,o4,o5,o6,o7,o8,o9,o10⟩:=hI
   have HGG:=Ω hg;have HSR:=Ω hsr;clear hg hsr
   have O0:=Ω o0
   have O1:=Ω o1
   have O2:=Ω o2
   have O3:=Ω o3
   have O4:=Ω o4
   have O5:=Ω o5
   have O6:=Ω o6
   have O7:=Ω o7
   have O8:=Ω o8
   have O9:=Ω o9
   have O10:=Ω o10
   clear o0 o1 o2 o3 o4 o5 o6 o7 o8 o9 o10
   have HD:=Ω hd;have HUN:=Ω hun;clear hd hself hun
   go_simp
   refine hK.out _ _ (fun hk=>⟨_,_,_,_,_,_,_,_,_,_,rfl,HGG.out,HSR.out,fun h=>O0.out ((hk _ h).resolve_left (by decide)),fun h=>O1.out ((hk _ h).resolve_left (by decide)),fun h=>O2.out ((hk _ h).resolve_left (by decide)),fun h=>O3.out ((hk _ h).resolve_left (by decide)),fun h=>O4.out ((hk _ h).resolve_left (by decide)),fun _=>rfl,fun h=>O6.out ((hk _ h).resolve_left (by decide)),fun h=>O7.out ((hk _ h).resolve_left (by decide)),fun h=>O8.out ((hk _ h).resolve_left (by decide)),fun h h9=>O9.out ((hk _ h).resolve_left (by decide)) (by rwa [getD_set_ne false (by decide)] at h9),fun h=>(have q:=(O10.out ((hk _ h).resolve_left (by decide)));⟨getD_set_true q.1,q.2.imp fun k hk2=>⟨hk2.1,(fun z=>z) hk2.2⟩⟩)⟩)
  ·intro listed a w2 hI hd hself hun K hK
   obtain ⟨eS,fP,fQ,fR,fS,fT,fU,fV,fW,fX,rfl,hg,hsr,o0,o1,o2,o3,o4,o5,o6,o7,o8,o9,o10⟩:=hI
   have hx:=o5 (hd 5 (by simp))
   subst hx
   have HGG:=Ω hg;have HSR:=Ω hsr;clear hg hsr
   have O0:=Ω o0
   have O1:=Ω o1
   have O2:=Ω o2
   have O3:=Ω o3
   have O4:=Ω o4
   have O5:=Ω o5
   have O6:=Ω o6
   have O7:=Ω o7
   have O8:=Ω o8
   have O9:=Ω o9
   have O10:=Ω o10
   clear o0 o1 o2 o3 o4 o5 o6 o7 o8 o9 o10
   have HD:=Ω hd;have HUN:=Ω hun;clear hd hself hun
   go_simp
   refine (next_any w2 sb 7 (by omega) HSR.out).mono ?_
   rintro e w3 ⟨⟨q,hq,rfl⟩,hs3,hg3⟩
   have HS3:=Ω hs3
   have HG3:=Ω hg3
   clear hs3 hg3
   have HGN:Hid (w2.grownBy w3 (some sb)):=Ω (HG3.out)
   refine hK.out _ _ (fun hk=>⟨_,_,_,_,_,_,_,_,_,_,rfl,HGG.out.trans HGN.out,HS3.out,fun h=>OwnBlk.grown (O0.out ((hk _ h).resolve_left (by decide))) HGN.out HN0.out,fun h=>O1.out ((hk _ h).resolve_left (by decide)),fun h=>OwnBlk.grown (O2.out ((hk _ h).resolve_left (by decide))) HGN.out HN0.out,fun h=>O3.out ((hk _ h).resolve_left (by decide)),fun h=>OwnBlk.grown (O4.out ((hk _ h).resolve_left (by decide))) HGN.out HN0.out,fun h=>O5.out ((hk _ h).resolve_left (by decide)),fun _=>⟨q,hq,rfl⟩,fun h=>(have q:=(O7.out ((hk _ h).resolve_left (by decide)));q.imp fun k hk2=>⟨hk2.1,hk2.2.grown HGN.out HN0.out⟩),fun h=>(have q:=(O8.out ((hk _ h).resolve_left (by decide)));q.imp fun k hk2=>⟨hk2.1,hk2.2.grown HGN.out HN0.out⟩),fun h h9=>OwnBlk.grown (O9.out ((hk _ h).resolve_left (by decide)) (by rwa [getD_set_ne false (by decide)] at h9)) HGN.out HN0.out,fun h=>(have q:=(O10.out ((hk _ h).resolve_left (by decide)));⟨getD_set_true q.1,q.2.imp fun k hk2=>⟨hk2.1,(fun z=>z.grown HGN.out HN0.out) hk2.2⟩⟩)⟩)
  ·intro listed a w2 hI hd hself hun K hK
   obtain ⟨eS,fP,fQ,fR,fS,fT,fU,fV,fW,fX,rfl,hg,hsr,o0,o1,o2,o3,o4,o5,o6,o7,o8,o9,o10⟩:=hI
   obtain ⟨g,hx,hb,hn⟩:=o4 (hd 4 (by simp))
   obtain ⟨q,hq,hy⟩:=o6 (hd 6 (by simp))
   subst hx hy
   have HB:=Ω (And.intro hb hn)
   clear hb hn
   have hi1:(q:Int)≤6:=by omega
   have hi2:¬(q:Int)<0:=by omega
   have hi3:q≤6:=by omega
   have hi4:(0:Int)≤(q:Int):=by omega
   have HGG:=Ω hg;have HSR:=Ω hsr;clear hg hsr
   have O0:=Ω o0
   have O1:=Ω o1
   have O2:=Ω o2
   have O3:=Ω o3
   have O4:=Ω o4
   have O5:=Ω o5
   have O6:=Ω o6
   have O7:=Ω o7
   have O8:=Ω o8
   have O9:=Ω o9
   have O10:=Ω o10
   clear o0 o1 o2 o3 o4 o5 o6 o7 o8 o9 o10
   have HD:=Ω hd;have HUN:=Ω hun;clear hd hself hun
   go_simp
   refine hK.out _ _ (fun hk=>⟨_,_,_,_,_,_,_,_,_,_,rfl,HGG.out,HSR.out,fun h=>O0.out ((hk _ h).resolve_left (by decide)),fun h=>O1.out ((hk _ h).resolve_left (by decide)),fun h=>O2.out ((hk _ h).resolve_left (by decide)),fun h=>O3.out ((hk _ h).resolve_left (by decide)),fun h=>O4.out ((hk _ h).resolve_left (by decide)),fun h=>O5.out ((hk _ h).resolve_left (by decide)),fun h=>O6.out ((hk _ h).resolve_left (by decide)),fun _=>⟨q,hq,g,rfl,HB.out.1,HB.out.2⟩,fun h=>O8.out ((hk _ h).resolve_left (by decide)),fun h h9=>O9.out ((hk _ h).resolve_left (by decide)) (by rwa [getD_set_ne false (by decide)] at h9),fun h=>(have q:=(O10.out ((hk _ h).resolve_left (by decide)));⟨getD_set_true q.1,q.2.imp fun k hk2=>⟨hk2.1,(fun z=>z) hk2.2⟩⟩)⟩)
  ·intro listed a w2 hI hd hself hun K hK
   obtain ⟨eS,fP,fQ,fR,fS,fT,fU,fV,fW,fX,rfl,hg,hsr,o0,o1,o2,o3,o4,o5,o6,o7,o8,o9,o10⟩:=hI
   have hx:=o3 (hd 3 (by simp))
   obtain ⟨q,hq,g,hy,hb,hn⟩:=o7 (hd 7 (by simp))
   subst hx hy
   have HB:=Ω (And.intro hb hn)
   clear hb hn
   have HGG:=Ω hg;have HSR:=Ω hsr;clear hg hsr
   have O0:=Ω o0
   have O1:=Ω o1
   have O2:=Ω o2
   have O3:=Ω o3
   have O4:=Ω o4
   have O5:=Ω o5
   have O6:=Ω o6
   have O7:=Ω o7
   have O8:=Ω o8
   have O9:=Ω o9
   have O10:=Ω o10
   clear o0 o1 o2 o3 o4 o5 o6 o7 o8 o9 o10
   have HD:=Ω hd;have HUN:=Ω hun;clear hd hself hun
   go_simp
   refine hK.out _ _ (fun hk=>⟨_,_,_,_,_,_,_,_,_,_,rfl,HGG.out,HSR.out,fun h=>O0.out ((hk _ h).resolve_left (by decide)),fun h=>O1.out ((hk _ h).resolve_left (by decide)),fun h=>O2.out ((hk _ h).resolve_left (by decide)),fun h=>O3.out ((hk _ h).resolve_left (by decide)),fun h=>O4.out ((hk _ h).resolve_left (by decide)),fun h=>O5.out ((hk _ h).resolve_left (by decide)),fun h=>O6.out ((hk _ h).resolve_left (by decide)),fun h=>O7.out ((hk _ h).resolve_left (by decide)),fun _=>⟨q,hq,g,rfl,HB.out.1,HB.out.2⟩,fun h h9=>O9.out ((hk _ h).resolve_left (by decide)) (by rwa [getD_set_ne false (by decide)] at h9),fun h=>(have q:=(O10.out ((hk _ h).resolve_left (by decide)));⟨getD_set_true q.1,q.2.imp fun k hk2=>⟨hk2.1,(fun z=>z) hk2.2⟩⟩)⟩)
  ·intro listed a w2 hI hd hself hun K hK
   obtain ⟨eS,fP,fQ,fR,fS,fT,fU,fV,fW,fX,rfl,hg,hsr,o0,o1,o2,o3,o4,o5,o6,o7,o8,o9,o10⟩:=hI
   have HGG:=Ω hg;have HSR:=Ω hsr;clear hg hsr
   have O0:=Ω o0
   have O1:=Ω o1
   have O2:=Ω o2
   have O3:=Ω o3
   have O4:=Ω o4
   have O5:=Ω o5
   have O6:=Ω o6
   have O7:=Ω o7
   have O8:=Ω o8
   have O9:=Ω o9
   have O10:=Ω o10
   clear o0 o1 o2 o3 o4 o5 o6 o7 o8 o9 o10
   have HD:=Ω hd;have HUN:=Ω hun;clear hd hself hun
   go_simp
   have HGN:Hid (w2.grownBy (w2.alloc (.cells #[.string ⟨#[]⟩,.slice none 0 0,.slice none 0 0,.slice none 0 0] 49)) (some sb)):=Ω (World.grownBy_alloc _ _ _)
   refine hK.out _ _ (fun hk=>⟨_,_,_,_,_,_,_,_,_,_,rfl,HGG.out.trans HGN.out,HSR.out.below (below1 _ _),fun h=>OwnBlk.grown (O0.out ((hk _ h).resolve_left (by decide))) HGN.out HN0.out,fun h=>O1.out ((hk _ h).resolve_left (by decide)),fun h=>OwnBlk.grown (O2.out ((hk _ h).resolve_left (by decide))) HGN.out HN0.out,fun h=>O3.out ((hk _ h).resolve_left (by decide)),fun h=>OwnBlk.grown (O4.out ((hk _ h).resolve_left (by decide))) HGN.out HN0.out,fun h=>O5.out ((hk _ h).resolve_left (by decide)),fun h=>O6.out ((hk _ h).resolve_left (by decide)),fun h=>(have q:=(O7.out ((hk _ h).resolve_left (by decide)));q.imp fun k hk2=>⟨hk2.1,hk2.2.grown HGN.out HN0.out⟩),fun h=>(have q:=(O8.out ((hk _ h).resolve_left (by decide)));q.imp fun k hk2=>⟨hk2.1,hk2.2.grown HGN.out HN0.out⟩),fun _=>fun _=>⟨w2.heap.size,rfl,Blk.new _ _ _,HGG.out.size⟩,fun h=>absurd (O10.out ((hk _ h).resolve_left (by decide))).1 (by rw [HUN.out];decide)⟩)
  ·intro listed a w2 hI hd hself hun K hK
   obtain ⟨eS,fP,fQ,fR,fS,fT,fU,fV,fW,fX,rfl,hg,hsr,o0,o1,o2,o3,o4,o5,o6,o7,o8,o9,o10⟩:=hI
   obtain ⟨q,hq,g2,hy,hb2,hn2⟩:=o8 (hd 8 (by simp))
   obtain ⟨g,hx,hb,hn⟩:=o9 (hd 9 (by simp)) hun
   subst hx hy
   have hne:g2≠g:=hb2.unlike hb (by decide)
   have c0:=hb.cell 0;have z0:=hb.frozen 0
   have c1:=hb.cell 1;have z1:=hb.frozen 1
   have c2:=hb.cell 2;have z2:=hb.frozen 2
   have c3:=hb.cell 3;have z3:=hb.frozen 3
   have HB:=Ω (And.intro hb hn)
   have HB2:=Ω (And.intro hb2 hn2)
   have HNE:=Ω hne
   clear hb hn hb2 hn2 hne
   have HGG:=Ω hg;have HSR:=Ω hsr;clear hg hsr
   have O0:=Ω o0
   have O1:=Ω o1
   have O2:=Ω o2
   have O3:=Ω o3
   have O4:=Ω o4
   have O5:=Ω o5
   have O6:=Ω o6
   have O7:=Ω o7
   have O8:=Ω o8
   have O9:=Ω o9
   have O10:=Ω o10
   clear o0 o1 o2 o3 o4 o5 o6 o7 o8 o9 o10
   have hk0:Hid ((listed.setIfInBounds 10 true).getD 10 false=true):=Ω hself
   have HD:=Ω hd;have HUN:=Ω hun;clear hd hself hun
   go_simp
   refine hK.out _ _ (fun hk=>⟨_,_,_,_,_,_,_,_,_,_,rfl,grown_own (grown_own (grown_own (grown_own HGG.out g HB.out.2 0 _) g HB.out.2 1 _) g HB.out.2 2 _) g HB.out.2 3 _,four_src HSR.out (ltle HN0.out HB.out.2),fun h=>OwnBlk.far4 (O0.out ((hk _ h).resolve_left (by decide))) HB.out.1 (by decide) _ _ _ _,fun h=>O1.out ((hk _ h).resolve_left (by decide)),fun h=>OwnBlk.far4 (O2.out ((hk _ h).resolve_left (by decide))) HB.out.1 (by decide) _ _ _ _,fun h=>O3.out ((hk _ h).resolve_left (by decide)),fun h=>OwnBlk.far4 (O4.out ((hk _ h).resolve_left (by decide))) HB.out.1 (by decide) _ _ _ _,fun h=>O5.out ((hk _ h).resolve_left (by decide)),fun h=>O6.out ((hk _ h).resolve_left (by decide)),fun h=>(have q:=O7.out ((hk _ h).resolve_left (by decide));q.imp fun k hk2=>⟨hk2.1,hk2.2.far4 HB.out.1 (by decide) _ _ _ _⟩),fun h=>(have q:=O8.out ((hk _ h).resolve_left (by decide));q.imp fun k hk2=>⟨hk2.1,hk2.2.far4 HB.out.1 (by decide) _ _ _ _⟩),fun _ h9=>absurd h9 (by rw [hk0.out];decide),fun _=>⟨getD_set_true (HD.out 9 (by simp)),q,hq,g,g2,rfl,(((HB.out.1.set_ 0 _).set_ 1 _).set_ 2 _).set_ 3 _,HB.out.2,(((HB2.out.1.far (p:=⟨g,0,none⟩) HNE.out _).far (p:=⟨g,1,none⟩) HNE.out _).far (p:=⟨g,2,none⟩) HNE.out _).far (p:=⟨g,3,none⟩) HNE.out _,HB2.out.2⟩⟩)
 ·intro listed a w2 hI hall
  obtain ⟨eS,fP,fQ,fR,fS,fT,fU,fV,fW,fX,rfl,hg,hsr,o0,o1,o2,o3,o4,o5,o6,o7,o8,o9,o10⟩:=hI
  exact HKK.out _ _ _ _ _ _ _ _ _ _ _ (o10 (hall 10 (by omega))).2 hg hsr
set_option maxRecDepth 100000 in
set_option maxHeartbeats 8000000 in
theorem ra_any (cc:Code) (hc:(Tryz.f11.body.bind (blkOf 1))=some cc) (Y:World) {fr:Bool} {W:World} {sb cb pb i nx cx:Nat} {Ax:Option Addr} {l:List (ByteArray × Int)} (hi:i<3) (hb:BoxG 53 2 RArrM W sb Y pb 27 #[.slice Ax nx cx,.slice none 0 0] (fun _=>True) (.slice Ax nx cx) (l)) (hnx:nx=l.length) (hn1:nx≤2) (hcb:Blk W cb 61 #[.slice none 0 0,.slice none 0 0,.slice none 0 0,.bool fr,.bool false]) (hc1:cb≠sb) (hc2:cb≠pb)
  (Q:Exit→Act→World→Prop) (aA aC aD aE aI aJ aK aL aM aN aO aP aQ aR aS aT aU aV aW aX aY aZ bA bB bC bD bE bF bG bH bI bJ bK bL bM bN bO bP bQ bR bS bT bU bV bW bX bY bZ cA cB cC cD cE cF cG cH cI cJ cK cL cM cN cO cP cQ cR cS cT cU cV cW cX cY cZ dA dB dC dD dE dG dH dI dJ dK dL dM dN dO dP dQ dR dS dU dV dW dX dY dZ eA eB eC eD eE eF eG eH eI eJ eK eL eM eN eO eP eQ:Value)
  (hK:∀(eR eV eW eX eY eZ fA fB fC fD fE fF fG fH fI fJ fK fL fM fN fO:Value) (w':World),(∃(Ap:Option Addr) (cp:Nat) (x:ByteArray × Int),BoxG 53 2 RArrM W sb w' pb 27 #[.slice Ap (nx+1) cp,.slice none 0 0] (fun _=>True) (.slice Ap (nx+1) cp) (l++[x]))→Q .normal { tmps:=#[aA,.bool fr,aC,aD,aE,.pointer (some ⟨sb,0,none⟩),.pointer (some ⟨cb,0,none⟩),.pointer (some ⟨pb,0,none⟩),.int .i64 (i:Int),eR,aJ,aK,aL,aM,aN,aO,aP,aQ,aR,aS,aT,aU,aV,aW,aX,aY,aZ,bA,bB,bC,bD,bE,bF,bG,eV,eW,eX,eY,eZ,fA,fB,fC,fD,fE,fF,fG,fH,fI,fJ,fK,fL,fM,fN,fO,cB,cC,cD,cE,cF,cG,cH,cI,cJ,cK,cL,cM,cN,cO,cP,cQ,cR,cS,cT,cU,cV,cW,cX,cY,cZ,dA,dB,dC,dD,dE,dG,dH,dI,dJ,dK,dL,dM,dN,dO,dP,dQ,dR,dS,dU,dV,dW,dX,dY,dZ,eA,eB,eC,eD,eE,eF,eG,eH,eI,eJ,eK,eL,eM,eN,eO,eP,eQ],defers:=[] } w'):(Code.block 1 cc).wp Tryz.prog Q { tmps:=#[aA,.bool fr,aC,aD,aE,.pointer (some ⟨sb,0,none⟩),.pointer (some ⟨cb,0,none⟩),.pointer (some ⟨pb,0,none⟩),.int .i64 (i:Int),aI,aJ,aK,aL,aM,aN,aO,aP,aQ,aR,aS,aT,aU,aV,aW,aX,aY,aZ,bA,bB,bC,bD,bE,bF,bG,bH,bI,bJ,bK,bL,bM,bN,bO,bP,bQ,bR,bS,bT,bU,bV,bW,bX,bY,bZ,cA,cB,cC,cD,cE,cF,cG,cH,cI,cJ,cK,cL,cM,cN,cO,cP,cQ,cR,cS,cT,cU,cV,cW,cX,cY,cZ,dA,dB,dC,dD,dE,dG,dH,dI,dJ,dK,dL,dM,dN,dO,dP,dQ,dR,dS,dU,dV,dW,dX,dY,dZ,eA,eB,eC,eD,eE,eF,eG,eH,eI,eJ,eK,eL,eM,eN,eO,eP,eQ],defers:=[] } Y:=by
 have HKK:=Ω hK
 have hcc:Tryz.f11.body.bind (blkOf 1)=some cc:=hc
 simp only [Tryz.f11,blkOf,Nat.reduceEqDiff,Option.bind_some,↓reduceIte,Option.none_or,Option.or_none,Option.some.injEq] at hcc
 subst hcc
 clear hc hK
 have HB:=Ω hb
 have HNX:=Ω hnx
 have HCB:=Ω (hb.gr.other hcb hc1 hc2)
 clear hb hnx hcb
 obtain ⟨zi,hj0,hj1,hj2,hj3⟩:=info_parts info_arr
 obtain ⟨css,hcss⟩:=HB.out.own
 have HOW:=Ω hcss
 clear hcss
 go_upto_region 9 with fail
 refine r9_any _ (by kernel_rfl) Y hi HB.out.src _ _ _ _ _ _ _ _ _ _ _ _ _ _ _ _ _ _ _ _ _ _ _ _ _ _ _ _ _ _ _ _ _ _ _ _ _ _ _ _ _ _ _ _ _ _ _ _ _ _ _ _ _ _ _ _ _ _ _ _ _ _ _ _ _ _ _ _ _ _ _ _ _ _ _ _ _ _ _ _ _ _ _ _ _ _ _ _ _ _ _ _ _ _ _ _ _ _ _ _ _ _ _ _ _ _ _ _ _ _ _ _ _ _ _ _ _ _ _ ?_
 intros
 rename_i X1 g v hg1 hs1 hbk hgn hv
 cases fr with
 |false=>
  have q0:=hbk.cell 0;have q1:=hbk.cell 1
  have hb1:=HB.out.step mono_arr hg1 hs1
  have p0:=hb1.blk.cell 0;have p1:=hb1.blk.cell 1
  have hown:=HB.out.row2 mono_arr hg1 (below1 X1 (.cells #[.string (nmA i),.int .i64 v] 53)) HNX.out HOW.out
  have hsz:W.heap.size≤X1.heap.size:=Nat.le_trans HB.out.gr.size hg1.size
  have HG1:=Ω hg1;have HS1:=Ω hs1
  clear hg1 hs1 hbk hb1
  go_wp2_with (at_builtin;refine wpList_append_lies _ rfl _ _ _ rfl W.heap.size 53 zi _ 2 24 Tryz.underlying24 hj0 hj1 hj2 hj3 rfl (by decide) (.slice Ax nx cx) nx css.flatten rfl hown ⟨X1.heap.size,0,none⟩ 1 1 [.string (nmA i),.int .i64 v] rfl rfl (World.news_of_block (cs:=#[.string (nmA i),.int .i64 v]) (t:=53) (fr:=(0,0)) (heap_alloc_new X1 _)) (by simp [Value.oneCell']) (by decide) (by unfold maxLen;omega) (by omega) (by simp;omega) (X1.heap.size+1) (by simp) ?_;intro gp cp X3 hown3 hgrow3 hat3 hlt3;have hb3:=HB.out.app mono_arr HG1.out HS1.out (below1 X1 (.cells #[.string (nmA i),.int .i64 v] 53)) HNX.out HOW.out (ok:=fun _=>False) (fun _ h=>h.elim) (x:=((nmA i),v)) rfl rfl trivial hown3 hgrow3 (by rcases hat3 with h|h;exact .inl h;exact .inr (by rw [h];simp));have HB3:=Ω hb3;have kc:=hb3.blk.cell 0;have kz:=hb3.blk.frozen 0;clear hb3 hown3 hgrow3 hat3)
  exact HKK.out _ _ _ _ _ _ _ _ _ _ _ _ _ _ _ _ _ _ _ _ _ _ ⟨_,_,_,HB3.out.set mono_arr 0 _⟩
 |true=>
  have HGN:=Ω hgn;have HBK:=Ω hbk;have HG0:=Ω hg1
  have hcx:=HCB.out.grown hg1 (fun e=>hc1 (sj e).symm)
  obtain ⟨c0,c1,c2,c3,c4⟩:=hcx.c5
  have har:Calls Tryz.prog 25 #[.agg #[.slice none 0 0,.slice none 0 0,.slice none 0 0,.bool true,.bool false],.pointer (some ⟨sb,0,none⟩)] X1 fun e w'=>(∃s sz,okN ⟨[],[],[]⟩ s∧e=.returned (.agg #[.string s,.int .i64 sz]))∧SrcAt w' sb∧X1.grownBy w' (some sb):=garray_any (c:=⟨[],[],[]⟩) (Aa:=none) (ca:=0) (Av:=none) (cv:=0) (Af:=none) (cf:=0) true hs1 ⟨SlR.nil_ _ _ _ _,SlR.nil_ _ _ _ _,SlR.nil_ _ _ _ _⟩ _ _ _
  have HAR:=Ω har
  have HSB:Hid (sb<Y.heap.size):=Ω HB.out.src.lt
  clear hcx har hg1 hs1 hbk hgn
  go_upto_region 12 with (go_at_call 25;refine HAR.out.mono ?_;rintro e X2 ⟨⟨s,sz,-,rfl⟩,hs2,hg2⟩;have hbk2:=HBK.out.grown hg2 (fun e=>by have:=sj e;have:=HSB.out;have:=HGN.out;omega);have b0:=hbk2.cell 0;have b1:=hbk2.cell 1;have z0:=hbk2.frozen 0;have z1:=hbk2.frozen 1;have HS2:=Ω hs2;have HG2:=Ω (HG0.out.trans hg2);have HBK2:=Ω hbk2;clear hs2 hg2 hbk2)
  refine wp_world ?_
  intro X3 hX3
  have hgl:Y.heap.size≤g:=HGN.out
  have hg1:Y.grownBy X3 (some sb):=by rw [←hX3];exact grown_own (grown_own HG2.out g hgl 0 _) g hgl 1 _
  have hs1:SrcAt X3 sb:=by rw [←hX3];exact src_far2 HS2.out (by have:=HSB.out;omega)
  have hbk:Blk X3 g 53 #[.string s,.int .i64 sz]:=by rw [←hX3];exact (HBK2.out.set_ 0 _).set_ 1 _
  clear hX3 b0 b1 z0 z1 c0 c1 c2 c3 c4
  obtain ⟨X1,hx1⟩:∃x,x=X3:=⟨_,rfl⟩
  rw [←hx1] at hg1 hs1 hbk ⊢
  clear hx1
  have q0:=hbk.cell 0;have q1:=hbk.cell 1
  have hb1:=HB.out.step mono_arr hg1 hs1
  have p0:=hb1.blk.cell 0;have p1:=hb1.blk.cell 1
  have hown:=HB.out.row2 mono_arr hg1 (below1 X1 (.cells #[.string s,.int .i64 sz] 53)) HNX.out HOW.out
  have hsz:W.heap.size≤X1.heap.size:=Nat.le_trans HB.out.gr.size hg1.size
  have HG1:=Ω hg1;have HS1:=Ω hs1
  clear hg1 hs1 hbk hb1
  go_wp2_with (at_builtin;refine wpList_append_lies _ rfl _ _ _ rfl W.heap.size 53 zi _ 2 24 Tryz.underlying24 hj0 hj1 hj2 hj3 rfl (by decide) (.slice Ax nx cx) nx css.flatten rfl hown ⟨X1.heap.size,0,none⟩ 1 1 [.string s,.int .i64 sz] rfl rfl (World.news_of_block (cs:=#[.string s,.int .i64 sz]) (t:=53) (fr:=(0,0)) (heap_alloc_new X1 _)) (by simp [Value.oneCell']) (by decide) (by unfold maxLen;omega) (by omega) (by simp;omega) (X1.heap.size+1) (by simp) ?_;intro gp cp X3 hown3 hgrow3 hat3 hlt3;have hb3:=HB.out.app mono_arr HG1.out HS1.out (below1 X1 (.cells #[.string s,.int .i64 sz] 53)) HNX.out HOW.out (ok:=fun _=>False) (fun _ h=>h.elim) (x:=(s,sz)) rfl rfl trivial hown3 hgrow3 (by rcases hat3 with h|h;exact .inl h;exact .inr (by rw [h];simp));have HB3:=Ω hb3;have kc:=hb3.blk.cell 0;have kz:=hb3.blk.frozen 0;clear hb3 hown3 hgrow3 hat3)
  exact HKK.out _ _ _ _ _ _ _ _ _ _ _ _ _ _ _ _ _ _ _ _ _ _ ⟨_,_,_,HB3.out.set mono_arr 0 _⟩
def paramsL:List ByteArray:=[⟨#[112]⟩,⟨#[113]⟩,⟨#[114]⟩,⟨#[115]⟩,⟨#[116]⟩,⟨#[117]⟩]
def localsL:List ByteArray:=[⟨#[120]⟩,⟨#[121]⟩,⟨#[122]⟩,⟨#[105]⟩,⟨#[107]⟩]
theorem SlR.take {α:Type} {w:World} {ok:Nat→Prop} {sz n c k:Nat} {A:Option Addr} {R:List Value→α→Prop} {l:List α} (h:SlR w ok sz R (.slice A n c) l) (hk:k≤n):SlR w ok sz R (.slice A k c) (l.take k):=by
 obtain ⟨A',c',hv,h1,h2,h3⟩:=h
 injection hv with e1 e2 e3
 subst e1 e2 e3
 have hl:(l.take k).length=k:=by rw [List.length_take];omega
 refine ⟨A,c,by rw [hl],by omega,h2,?_⟩
 rcases h3 with rfl|⟨b,off,hA,hb,hi⟩
 ·exact .inl (by simp)
 ·refine .inr ⟨b,off,hA,hb,fun i hi2=>?_⟩
  obtain ⟨cs,q1,q2,q3⟩:=hi i (by rw [hl] at hi2;omega)
  exact ⟨cs,q1,by rw [List.getElem_take];exact q2,q3⟩
theorem flat_strs:∀l:List ByteArray,l.map Value.string=(l.map fun s=>[Value.string s]).flatten
 |[]=>rfl
 |_ :: r=>by rw [List.map_cons,List.map_cons,List.flatten_cons,←flat_strs r];rfl
theorem all_strs:∀l:List ByteArray,AllR 1 RStr (l.map fun s=>[Value.string s]) l
 |[]=>trivial
 |_ :: r=>⟨⟨rfl,rfl⟩,all_strs r⟩
theorem strs_of_blk {w:World} {g n:Nat} {T:TypeId} {cs:Array Value} {l:List ByteArray} (h:Blk w g T cs) (hcs:cs=(l.map Value.string).toArray) (hn:n=l.length) (hl:n≤1000):SlR w (fun b=>b=g) 1 RStr (.slice (some ⟨g,0,none⟩) n n) l:=by
 refine SlR.lit (l.map fun s=>[.string s]) h (by rw [hcs,flat_strs]) (all_strs l) hn rfl hl
set_option maxRecDepth 100000 in
set_option maxHeartbeats 8000000 in
theorem rf_any (cc:Code) (hc:(Tryz.f11.body.bind (blkOf 3))=some cc) (Y:World) {fr:Bool} {W:World} {sb cb i nx cx:Nat} {Ax:Option Addr} {va:Value} {l:List (ByteArray × List ByteArray)} (hi:i<3) (hb:BoxG 49 4 RHead W sb Y cb 61 #[.slice none 0 0,va,.slice Ax nx cx,.bool fr,.bool false] (fun _=>True) (.slice Ax nx cx) (l)) (hnx:nx=l.length) (hn1:nx≤3)
  (Q:Exit→Act→World→Prop) (aA aB aC aD aE aG aH aI aK aL aM aN aO aP aQ aR aS aT aU aV aW aX aY aZ bA bB bC bD bE bF bG bH bI bJ bK bL bM bN bO bP bQ bR bS bT bU bV bW bX bY bZ cA cB cC cD cE cF cG cH cI cJ cK cL cM cN cO cP cQ cR cS cT cU cV cW cX cY cZ dA dB dC dD dE dG dH dI dJ dK dL dM dN dO dP dQ dR dS dU dV dW dX dY dZ eA eB eC eD eE eF eG eH eI eJ eK eL eM eN eO eP eQ:Value)
  (hK:∀(eS fP fQ fR fS fT fU fV fW fX fY fZ gA gB gC gD:Value) (w':World),(∃(Ap:Option Addr) (cp k:Nat),k<7∧BoxG 49 4 RHead W sb w' cb 61 #[.slice none 0 0,va,.slice Ap (nx+1) cp,.bool fr,.bool false] (fun _=>True) (.slice Ap (nx+1) cp) (l++[(nmF i,paramsL.take k)]))→Q .normal { tmps:=#[aA,aB,aC,aD,aE,.pointer (some ⟨sb,0,none⟩),.pointer (some ⟨cb,0,none⟩),aG,aH,aI,.int .i64 (i:Int),eS,aL,aM,aN,aO,aP,aQ,aR,aS,aT,aU,aV,aW,aX,aY,aZ,bA,bB,bC,bD,bE,bF,bG,bH,bI,bJ,bK,bL,bM,bN,bO,bP,bQ,bR,bS,bT,bU,bV,bW,bX,bY,bZ,cA,cB,cC,cD,cE,cF,cG,cH,cI,cJ,cK,cL,cM,cN,cO,cP,fP,fQ,fR,fS,fT,fU,fV,fW,fX,fY,fZ,gA,gB,gC,gD,dG,dH,dI,dJ,dK,dL,dM,dN,dO,dP,dQ,dR,dS,dU,dV,dW,dX,dY,dZ,eA,eB,eC,eD,eE,eF,eG,eH,eI,eJ,eK,eL,eM,eN,eO,eP,eQ],defers:=[] } w'):(Code.block 3 cc).wp Tryz.prog Q { tmps:=#[aA,aB,aC,aD,aE,.pointer (some ⟨sb,0,none⟩),.pointer (some ⟨cb,0,none⟩),aG,aH,aI,.int .i64 (i:Int),aK,aL,aM,aN,aO,aP,aQ,aR,aS,aT,aU,aV,aW,aX,aY,aZ,bA,bB,bC,bD,bE,bF,bG,bH,bI,bJ,bK,bL,bM,bN,bO,bP,bQ,bR,bS,bT,bU,bV,bW,bX,bY,bZ,cA,cB,cC,cD,cE,cF,cG,cH,cI,cJ,cK,cL,cM,cN,cO,cP,cQ,cR,cS,cT,cU,cV,cW,cX,cY,cZ,dA,dB,dC,dD,dE,dG,dH,dI,dJ,dK,dL,dM,dN,dO,dP,dQ,dR,dS,dU,dV,dW,dX,dY,dZ,eA,eB,eC,eD,eE,eF,eG,eH,eI,eJ,eK,eL,eM,eN,eO,eP,eQ],defers:=[] } Y:=by
 have HKK:=Ω hK
 have hcc:Tryz.f11.body.bind (blkOf 3)=some cc:=hc
 simp only [Tryz.f11,blkOf,Nat.reduceEqDiff,Option.bind_some,↓reduceIte,Option.none_or,Option.or_none,Option.some.injEq] at hcc
 subst hcc
 clear hc hK
 have HB:=Ω hb
 have HNX:=Ω hnx
 clear hb hnx
 obtain ⟨zi,hj0,hj1,hj2,hj3⟩:=info_parts info_func
 obtain ⟨css,hcss⟩:=HB.out.own
 have HOW:=Ω hcss
 clear hcss
 go_upto_region 18 with fail
 refine r18_any _ (by kernel_rfl) Y hi HB.out.src _ _ _ _ _ _ _ _ _ _ _ _ _ _ _ _ _ _ _ _ _ _ _ _ _ _ _ _ _ _ _ _ _ _ _ _ _ _ _ _ _ _ _ _ _ _ _ _ _ _ _ _ _ _ _ _ _ _ _ _ _ _ _ _ _ _ _ _ _ _ _ _ _ _ _ _ _ _ _ _ _ _ _ _ _ _ _ _ _ _ _ _ _ _ _ _ _ _ _ _ _ _ _ _ _ _ _ _ _ _ _ _ _ _ _ _ _ _ _ ?_
 intros
 rename_i X1 hx hg1 hs1
 obtain ⟨k,hk,g,g2,rfl,hbk,hgn,hbk2,hgn2⟩:=hx
 have HG1:=Ω hg1;have HS1:=Ω hs1
 have q0:=hbk.cell 0;have q1:=hbk.cell 1;have q2:=hbk.cell 2;have q3:=hbk.cell 3
 have hb1:=HB.out.step mono_head hg1 hs1
 have p2:=hb1.blk.cell 2
 have hown:=HB.out.row2 mono_head hg1 (below1 X1 (.cells #[.string (nmF i),.slice (some ⟨g2,0,none⟩) k 6,.slice none 0 0,.slice none 0 0] 49)) HNX.out HOW.out
 have hsz:W.heap.size≤X1.heap.size:=Nat.le_trans HB.out.gr.size hg1.size
 have hok:∀b,b=g2→W.heap.size≤b∧b<X1.heap.size∧(.slice Ax nx cx:Value).ownBlock≠some b:=fun b hbe=>by subst hbe;exact ⟨Nat.le_trans HB.out.gr.size hgn2,hbk2.lt,fun e=>by have:=HOW.out.lt _ e;omega⟩
 have hhd:RHead X1 (fun b=>b=g2) [.string (nmF i),.slice (some ⟨g2,0,none⟩) k 6,.slice none 0 0,.slice none 0 0] (nmF i,paramsL.take k):=by
  have hlen:(paramsL.take k).length=k:=by rw [List.length_take];show min k 6=k;omega
  refine ⟨some ⟨g2,0,none⟩,6,by rw [show (nmF i,paramsL.take k).2.length=k from hlen],?_⟩
  rw [show (nmF i,paramsL.take k).2.length=k from hlen]
  exact (strs_of_blk (n:=6) (l:=paramsL) hbk2 rfl rfl (by decide)).take (by omega)
 have HOK:=Ω hok;have HHD:=Ω hhd
 clear hg1 hs1 hbk hbk2 hb1 hok hhd
 go_wp2_with (at_builtin;refine wpList_append_lies _ rfl _ _ _ rfl W.heap.size 49 zi _ 4 88 Tryz.underlying25 hj0 hj1 hj2 hj3 rfl (by decide) (.slice Ax nx cx) nx css.flatten rfl hown ⟨X1.heap.size,0,none⟩ 1 1 [.string (nmF i),.slice (some ⟨g2,0,none⟩) k 6,.slice none 0 0,.slice none 0 0] rfl rfl (World.news_of_block (cs:=#[.string (nmF i),.slice (some ⟨g2,0,none⟩) k 6,.slice none 0 0,.slice none 0 0]) (t:=49) (fr:=(0,0)) (heap_alloc_new X1 _)) (by simp [Value.oneCell']) (by decide) (by unfold maxLen;omega) (by omega) (by simp;omega) (X1.heap.size+1) (by simp) ?_;intro gp cp X3 hown3 hgrow3 hat3 hlt3;have hb3:=HB.out.app mono_head HG1.out HS1.out (below1 X1 (.cells #[.string (nmF i),.slice (some ⟨g2,0,none⟩) k 6,.slice none 0 0,.slice none 0 0] 49)) HNX.out HOW.out HOK.out HHD.out rfl trivial hown3 hgrow3 (by rcases hat3 with h|h;exact .inl h;exact .inr (by rw [h];simp));have HB3:=Ω hb3;have kc:=hb3.blk.cell 2;have kz:=hb3.blk.frozen 2;clear hb3 hown3 hgrow3 hat3)
 exact HKK.out _ _ _ _ _ _ _ _ _ _ _ _ _ _ _ _ _ ⟨_,_,k,hk,HB3.out.set mono_head 2 _⟩
theorem grown_none {w w':World} {r:Option Nat} (h:w.grownBy w' none):w.grownBy w' r:=⟨h.os,h.tape,h.output,h.size,fun k hk _=>h.block k hk (fun e=>by cases e)⟩
theorem grown_into {w X Y:World} {r:Option Nat} (h:w.grownBy X none) (hg:X.grownBy Y r) (hr:∀k,r=some k→w.heap.size≤k):w.grownBy Y none:=⟨hg.os.trans h.os,hg.tape.trans h.tape,hg.output.trans h.output,Nat.le_trans h.size hg.size,fun k hk hne=>(hg.block k (ltle hk h.size) (fun e=>by have:=hr k e.symm;omega)).trans (h.block k hk hne)⟩
theorem news_strs {X:World} {ok:Nat→Prop} {A:Option Addr} {n c:Nat} {l:List ByteArray} (h:SlR X ok 1 RStr (.slice A n c) l) (hn:n=l.length):(l.map Value.string).length=n*1∧(n=0∨∃ad,A=some ad∧∀j u,(l.map Value.string)[j]?=some u→X.cell? (ad.add j)=some u)∧∀u∈l.map Value.string,u.oneCell'=true:=by
 refine ⟨by simp [hn],?_,fun u hu=>?_⟩
 ·by_cases h0:0<l.length
  ·obtain ⟨b,o,c',hv,_,_,_,hel⟩:=h.form h0
   have hA:A=some ⟨b,o,none⟩:=by injection hv
   have hcl:Cells X b o (l.map Value.string):=fun j hj=>by
    have hj2:j<l.length:=by simpa using hj
    obtain ⟨cs,_,hcs,hcell⟩:=hel j hj2
    obtain rfl:cs=[.string l[j]]:=hcs
    have h2:=hcell.at_ (j:=0) rfl
    rw [List.getElem_map]
    simpa using h2
   exact .inr ⟨⟨b,o,none⟩,hA,hcl.news⟩
  ·exact .inl (by omega)
 ·obtain ⟨s,_,rfl⟩:=List.mem_map.1 hu;rfl
structure HeadsOk (hs:List (ByteArray × List ByteArray)) (as_:List (ByteArray × Int)):Prop where
 heads:∀x∈hs,True∧x.2.length≤6
 few:hs.length≤3
 fewA:as_.length≤2
def scpAt (hs:List (ByteArray × List ByteArray)) (as_:List (ByteArray × Int)) (x:ByteArray × List ByteArray) (m:Nat):Scp:=⟨x.2++localsL.take m,as_.map (·.1),hs.map fun y=>(y.1,y.2.length)⟩
theorem scp_ok {hs:List (ByteArray × List ByteArray)} {as_:List (ByteArray × Int)} {x:ByteArray × List ByteArray} {m:Nat} (h:HeadsOk hs as_) (hx:x∈hs) (hm:m≤5):ScOk (scpAt hs as_ x m):=by
 refine ⟨fun y hy=>?_,?_,?_,?_⟩
 ·obtain ⟨a,ha,rfl⟩:=List.mem_map.1 hy;exact (h.heads a ha).2
 ·show (x.2++localsL.take m).length≤400
  have:=(h.heads x hx).2
  rw [List.length_append,List.length_take];omega
 ·show (as_.map (·.1)).length≤400
  rw [List.length_map];have:=h.fewA;omega
 ·show (hs.map fun y=>(y.1,y.2.length)).length≤400
  rw [List.length_map];have:=h.few;omega
theorem SlR.mapped {α β:Type} {w:World} {ok:Nat→Prop} {sz:Nat} {R:List Value→α→Prop} {R':List Value→β→Prop} {v:Value} {l:List α} (f:α→β) (h:SlR w ok sz R v l) (hR:∀cs x,x∈l→R cs x→R' cs (f x)):SlR w ok sz R' v (l.map f):=by
 obtain ⟨A,c,hv,h1,h2,h3⟩:=h
 refine ⟨A,c,by rw [List.length_map];exact hv,by rw [List.length_map];exact h1,h2,?_⟩
 rcases h3 with rfl|⟨b,off,hA,hb,hi⟩
 ·exact .inl rfl
 ·refine .inr ⟨b,off,hA,hb,fun i hi2=>?_⟩
  have hi3:i<l.length:=by simpa using hi2
  obtain ⟨cs,q1,q2,q3⟩:=hi i hi3
  exact ⟨cs,q1,by rw [List.getElem_map];exact hR _ _ (List.getElem_mem _) q2,q3⟩
theorem sc_at {X:World} {sb m cv:Nat} {Av Aa Ah:Option Addr} {na ca nh ch:Nat} {hs:List (ByteArray × List ByteArray)} {as_:List (ByteArray × Int)} {x:ByteArray × List ByteArray} {ok:Nat→Prop} (hok:∀b,ok b→b<X.heap.size∧b≠sb)
  (hv:SlR X ok 1 RStr (.slice Av (x.2++localsL.take m).length cv) (x.2++localsL.take m)) (ha:SlR X ok 2 RArr (.slice Aa na ca) as_) (hh:SlR X ok 4 (RHead X ok) (.slice Ah nh ch) hs) (hna:na=as_.length) (hnh:nh=hs.length):ScAt X sb (scpAt hs as_ x m) Av Aa Ah cv ca ch:=by
 subst hna hnh
 refine ⟨hv.imp hok (fun _ _=>rfl) fun _ _ _ r=>r,?_,?_⟩
 ·have h:=(ha.imp hok (fun _ _=>rfl) fun _ _ _ r=>r).mapped (R':=RArrN) (fun y:ByteArray × Int=>y.1) (fun cs y _ r=>⟨y.2,show cs=[.string y.1,.int .i64 y.2] from r⟩)
  rw [←show (as_.map (·.1)).length=as_.length from List.length_map _] at h
  exact h
 ·have h:=(hh.imp hok (fun _ _=>rfl) fun _ _ _ r=>r).mapped (R':=RFunN) (fun y=>(y.1,y.2.length)) (fun cs y _ r=>by obtain ⟨A,c,e,_⟩:=r;exact ⟨A,c,e⟩)
  rw [←show (hs.map fun y=>(y.1,y.2.length)).length=hs.length from List.length_map _] at h
  exact h
set_option maxRecDepth 100000 in
set_option maxHeartbeats 8000000 in
theorem rb_any (cc:Code) (hc:(Tryz.f11.body.bind (blkOf 5))=some cc) (Y:World) {fr:Bool} {W:World} {lo sb cb pb i nx cx nh ch na ca:Nat} {Ax Ah Aa:Option Addr} {l:List LFunc} {hs:List (ByteArray × List ByteArray)} {as_:List (ByteArray × Int)} (hi:i<hs.length) (hb:BoxX 49 4 (RFuncM 8) lo W sb Y pb 27 #[.slice Aa na ca,.slice Ax nx cx] (fun _=>True) (.slice Ax nx cx) (l)) (hnx:nx=l.length) (hn1:nx≤3) (hcb:Blk W cb 61 #[.slice none 0 0,.slice Aa na ca,.slice Ah nh ch,.bool fr,.bool false]) (hc1:cb≠sb) (hc2:cb≠pb) (hh:SlR W (fun b=>lo≤b∧b<W.heap.size) 4 (RHead W (fun b=>lo≤b∧b<W.heap.size)) (.slice Ah nh ch) hs) (ha:SlR W (fun b=>b<W.heap.size∧b≠sb∧b≠pb) 2 RArr (.slice Aa na ca) as_) (hnh:nh=hs.length) (hna:na=as_.length) (hgood:HeadsOk hs as_)
  (Q:Exit→Act→World→Prop) (hQ:∀p (a:Act) t (v:Value) (w':World),Q (Exit.panic p) (a.put t v) w'→Q (Exit.panic p) a w') (aA aB aC aD aE aH aI aJ aK aM aN aO aP aQ aR aS aT aU aV aW aX aY aZ bA bB bC bD bE bF bG bH bI bJ bK bL bM bN bO bP bQ bR bS bT bU bV bW bX bY bZ cA cB cC cD cE cF cG cH cI cJ cK cL cM cN cO cP cQ cR cS cT cU cV cW cX cY cZ dA dB dC dD dE dG dH dI dJ dK dL dM dN dO dP dQ dR dS dU dV dW dX dY dZ eA eB eC eD eE eF eG eH eI eJ eK eL eM eN eO eP eQ:Value)
  (hK:∀(eT eU gE gF gG gH gI gJ gK gM gN gP gQ gR gT gU gV gW gX gY gZ hC hD hE hF hG hH hJ hL hM:Value) (w':World),(∃(Ap:Option Addr) (cp m:Nat) (body:List LStmt),m<6∧(∀s∈body,GoodS (scpAt hs as_ hs[i] m) 4 false s)∧body.length≤4∧BoxX 49 4 (RFuncM 8) lo W sb w' pb 27 #[.slice Aa na ca,.slice Ap (nx+1) cp] (fun _=>True) (.slice Ap (nx+1) cp) (l++[⟨hs[i].1,hs[i].2,localsL.take m,body⟩]))→Q .normal { tmps:=#[aA,aB,aC,aD,aE,.pointer (some ⟨sb,0,none⟩),.pointer (some ⟨cb,0,none⟩),.pointer (some ⟨pb,0,none⟩),aH,aI,aJ,aK,.int .i64 (i:Int),eT,eU,aO,aP,aQ,aR,aS,aT,aU,aV,aW,aX,aY,aZ,bA,bB,bC,bD,bE,bF,bG,bH,bI,bJ,bK,bL,bM,bN,bO,bP,bQ,bR,bS,bT,bU,bV,bW,bX,bY,bZ,cA,cB,cC,cD,cE,cF,cG,cH,cI,cJ,cK,cL,cM,cN,cO,cP,cQ,cR,cS,cT,cU,cV,cW,cX,cY,cZ,dA,dB,dC,dD,dE,dG,dH,dI,dJ,dK,dL,dM,gE,gF,gG,gH,gI,gJ,gK,gM,gN,gP,gQ,gR,gT,gU,gV,gW,gX,gY,gZ,hC,hD,hE,hF,hG,hH,hJ,hL,hM,eQ],defers:=[] } w'):(Code.block 5 cc).wp Tryz.prog Q { tmps:=#[aA,aB,aC,aD,aE,.pointer (some ⟨sb,0,none⟩),.pointer (some ⟨cb,0,none⟩),.pointer (some ⟨pb,0,none⟩),aH,aI,aJ,aK,.int .i64 (i:Int),aM,aN,aO,aP,aQ,aR,aS,aT,aU,aV,aW,aX,aY,aZ,bA,bB,bC,bD,bE,bF,bG,bH,bI,bJ,bK,bL,bM,bN,bO,bP,bQ,bR,bS,bT,bU,bV,bW,bX,bY,bZ,cA,cB,cC,cD,cE,cF,cG,cH,cI,cJ,cK,cL,cM,cN,cO,cP,cQ,cR,cS,cT,cU,cV,cW,cX,cY,cZ,dA,dB,dC,dD,dE,dG,dH,dI,dJ,dK,dL,dM,dN,dO,dP,dQ,dR,dS,dU,dV,dW,dX,dY,dZ,eA,eB,eC,eD,eE,eF,eG,eH,eI,eJ,eK,eL,eM,eN,eO,eP,eQ],defers:=[] } Y:=by
 have HKK:=Ω hK
 have HQ:=Ω hQ
 have hcc:Tryz.f11.body.bind (blkOf 5)=some cc:=hc
 simp only [Tryz.f11,blkOf,Nat.reduceEqDiff,Option.bind_some,↓reduceIte,Option.none_or,Option.or_none,Option.some.injEq] at hcc
 subst hcc
 clear hc hK hQ
 have HB:=Ω hb
 have HNX:=Ω hnx
 have HGOOD:=Ω hgood
 have HNH:=Ω hnh
 have HNA:=Ω hna
 obtain ⟨zi,hj0,hj1,hj2,hj3⟩:=info_parts info_func
 obtain ⟨zs,hk0,hk1,hk2,hk3⟩:=info_parts info_string
 obtain ⟨css,hcss⟩:=HB.out.own
 have HOW:=Ω hcss
 clear hcss
 obtain ⟨x,hx⟩:∃x,x=hs[i]:=⟨_,rfl⟩
 have hmem:x∈hs:=by rw [hx];exact List.getElem_mem _
 have HMEM:=Ω hmem
 rw [←hx] at HKK
 obtain ⟨b,off,ch',hform,_,hlm,hbl,hel⟩:=hh.form (by omega)
 obtain ⟨rfl,rfl⟩:Ah=some ⟨b,off,none⟩∧ch=ch':=by rw [hnh] at hform;injection hform with h1 _ h2;exact ⟨h1,h2⟩
 obtain ⟨cs,_,⟨Ap,cpp,hcs,hpar⟩,hcell⟩:=hel i hi
 rw [←hx] at hcs hpar
 subst hcs
 have hcellY:=hcell.keep (HB.out.gr.block b hbl.2 (by have:=hbl.1;have:=HB.out.ne;have:=HB.out.gt;omega) (by have:=hbl.1;have:=HB.out.gt;omega))
 obtain ⟨np,hnp⟩:∃n,n=x.2.length:=⟨_,rfl⟩
 rw [←hnp] at hcellY hpar
 have e0:Y.cell? ⟨b,off+i*4,none⟩=some (.string x.1):=by have h:=hcellY.at_ (j:=0) rfl;simpa using h
 have e1:Y.cell? ⟨b,off+i*4+1,none⟩=some (.slice Ap np cpp):=by have h:=hcellY.at_ (j:=1) rfl;simpa using h
 have e2:Y.cell? ⟨b,off+i*4+2,none⟩=some (.slice none 0 0):=by have h:=hcellY.at_ (j:=2) rfl;simpa using h
 have e3:Y.cell? ⟨b,off+i*4+3,none⟩=some (.slice none 0 0):=by have h:=hcellY.at_ (j:=3) rfl;simpa using h
 have hcbY:Blk Y cb 61 #[.slice none 0 0,.slice Aa na ca,.slice (some ⟨b,off,none⟩) nh ch,.bool fr,.bool false]:=HB.out.gr.other hcb hc1 hc2
 have c2:=hcbY.cell 2
 have HCB:=Ω hcbY
 have hnp6:np≤6:=by rw [hnp];exact (hgood.heads x hmem).2
 have HNP:=Ω hnp
 have hinh:(i:Int)<(nh:Int):=by omega
 have hih:i<nh:=by omega
 have hnh3:nh≤3:=by rw [hnh];exact hgood.few
 have HPAR:Hid (∀X,Y.grownBy X (some sb)→SlR X (okX lo X (.slice Ax nx cx)) 1 RStr (.slice Ap np cpp) x.2):=Ω (fun X hg=>hpar.imp (fun q hq=>⟨hq.1,ltle hq.2 (Nat.le_trans HB.out.gr.size hg.size),fun e=>by have:=HOW.out.row.lt _ e;have:=hq.2;omega⟩) (fun q hq=>(hg.block q (ltle hq.2 HB.out.gr.size) (fun e=>by have:=sj e;have:=hq.1;have:=HB.out.ne;have:=HB.out.gt;omega)).trans (HB.out.gr.block q hq.2 (by have:=hq.1;have:=HB.out.ne;have:=HB.out.gt;omega) (by have:=hq.1;have:=HB.out.gt;omega))) fun _ _ _ r=>r)
 have HHD:Hid (∀X,Y.grownBy X (some sb)→SlR X (fun b=>lo≤b∧b<W.heap.size) 4 (RHead X (fun b=>lo≤b∧b<W.heap.size)) (.slice (some ⟨b,off,none⟩) nh ch) hs):=Ω (fun X hg=>(HB.out.gr.grown hg).slr mono_head hh (fun q hq=>⟨hq.2,by have:=hq.1;have:=HB.out.ne;have:=HB.out.gt;omega,by have:=hq.1;have:=HB.out.gt;omega⟩))
 have HAR:Hid (∀X,Y.grownBy X (some sb)→SlR X (fun b=>b<W.heap.size∧b≠sb∧b≠pb) 2 RArr (.slice Aa na ca) as_):=Ω (fun X hg=>(HB.out.gr.grown hg).slr mono_arr ha (fun _ h=>h))
 have HWY:Hid (W.heap.size≤Y.heap.size):=Ω HB.out.gr.size
 have HHI:=Ω hi
 have HBL:=Ω (show b<Y.heap.size∧cb<Y.heap.size∧sb<Y.heap.size from ⟨ltle hbl.2 HB.out.gr.size,hcbY.lt,HB.out.src.lt⟩)
 have HC1:=Ω hc1
 clear hb hnx hcb hh ha hnh hna hgood hx hmem hform hel hcell hcellY hpar hnp hcbY hbl hlm hc1 hc2 hi
 go_upto_region 24 with fail
 refine wp_world ?_
 intro Y1 hY1
 have hg1:Y.grownBy Y1 (some sb):=by rw [←hY1];exact World.grownBy_alloc _ _ _
 have hs1:SrcAt Y1 sb:=by rw [←hY1];exact HB.out.src.below (below1 _ _)
 have hf1:Blk Y1 Y.heap.size 49 #[.string x.1,.slice Ap np cpp,.slice none 0 0,.slice none 0 0]:=by rw [←hY1];exact Blk.new _ _ _
 obtain ⟨gf,hgf⟩:∃g,Y.heap.size=g:=⟨_,rfl⟩
 rw [hgf] at hf1 ⊢
 have HG1:=Ω hg1;have HS1:=Ω hs1;have HF1:=Ω hf1;have HGF:=Ω hgf
 clear hY1 hg1 hs1 hf1 hgf e0 e1 e2 e3 c2
 go_upto_region 25 with fail
 refine (next_any _ sb 6 (by omega) (HS1.out.below (below1 Y1 (.cells #[.string ⟨#[120]⟩,.string ⟨#[121]⟩,.string ⟨#[122]⟩,.string ⟨#[105]⟩,.string ⟨#[107]⟩] 9)))).mono ?_
 rintro e Y3 ⟨⟨m,hm,rfl⟩,hs3,hg3⟩
 have HS3:=Ω hs3
 have HG3:=Ω (HG1.out.trans ((grown_below' (row:=some sb) (below1 Y1 (.cells #[.string ⟨#[120]⟩,.string ⟨#[121]⟩,.string ⟨#[122]⟩,.string ⟨#[105]⟩,.string ⟨#[107]⟩] 9))).trans hg3))
 have hl3:=(Blk.new Y1 9 #[.string ⟨#[120]⟩,.string ⟨#[121]⟩,.string ⟨#[122]⟩,.string ⟨#[105]⟩,.string ⟨#[107]⟩]).grown hg3 (fun e=>by have:=sj e;have:=HS1.out.lt;omega)
 have hf3:=(HF1.out.grown (grown_below' (row:=some sb) (below1 Y1 (.cells #[.string ⟨#[120]⟩,.string ⟨#[121]⟩,.string ⟨#[122]⟩,.string ⟨#[105]⟩,.string ⟨#[107]⟩] 9))) (fun e=>by have:=sj e;have:=HGF.out;have:=HBL.out;omega)).grown hg3 (fun e=>by have:=sj e;have:=HGF.out;have:=HBL.out;omega)
 have HL3:=Ω hl3
 have HF3:=Ω hf3
 have kc:=hf3.cell 2
 have kz:=hf3.frozen 2
 have hm5:m≤5:=by omega
 have hm6:(m:Int)≤5:=by omega
 have hm7:¬(m:Int)<0:=by omega
 have hm8:(0:Int)≤(m:Int):=by omega
 have HM:=Ω hm
 clear hs3 hg3 hl3 hf3
 go_upto_region 25 with fail
 refine wp_world ?_
 intro Y4 hY4
 have hgy:Y.heap.size≤gf:=Nat.le_of_eq HGF.out
 have hg4:Y.grownBy Y4 (some sb):=by rw [←hY4];exact grown_own HG3.out gf hgy 2 _
 have hs4:SrcAt Y4 sb:=by rw [←hY4];exact HS3.out.keep fun k hk=>bhs Y3 ⟨gf,2,none⟩ _ k (by show k≠gf;have:=HBL.out;omega)
 have hf4:Blk Y4 gf 49 #[.string x.1,.slice Ap np cpp,(.slice (some ⟨Y1.heap.size,0,none⟩) m 5),.slice none 0 0]:=by rw [←hY4];exact HF3.out.set_ 2 _
 have hl4:Blk Y4 Y1.heap.size 9 #[.string ⟨#[120]⟩,.string ⟨#[121]⟩,.string ⟨#[122]⟩,.string ⟨#[105]⟩,.string ⟨#[107]⟩]:=by rw [←hY4];exact HL3.out.far (p:=⟨gf,2,none⟩) (HL3.out.unlike HF3.out (by decide)) _
 have hcb4:Blk Y4 cb 61 #[.slice none 0 0,.slice Aa na ca,.slice (some ⟨b,off,none⟩) nh ch,.bool fr,.bool false]:=HCB.out.grown hg4 (fun e=>HC1.out (sj e).symm)
 have HG4:=Ω hg4;have HS4:=Ω hs4;have HF4:=Ω hf4;have HL4:=Ω hl4
 have hly:Y.heap.size≤Y1.heap.size:=HG1.out.size
 have HLY:=Ω hly
 have HGY:=Ω hgy
 obtain ⟨c0,c1,c2,c3,c4⟩:=hcb4.c5
 clear hY4 hg4 hs4 hf4 hl4 hcb4 hgy hly kc kz
 obtain ⟨gl,hgl⟩:∃g,Y1.heap.size=g:=⟨_,rfl⟩
 rw [hgl] at HF4 HL4 HLY ⊢
 clear hgl
 go_upto_region 26 with fail
 refine wp_world ?_
 intro Y5 hY5
 have hb5:Below Y4.heap.size Y4 Y5:=by rw [←hY5];exact below1 _ _
 have hi5:Blk Y5 Y4.heap.size 61 #[.slice none 0 0,.slice Aa na ca,.slice (some ⟨b,off,none⟩) nh ch,.bool fr,.bool false]:=by rw [←hY5];exact Blk.new _ _ _
 have hf5:Blk Y5 gf 49 #[.string x.1,.slice Ap np cpp,(.slice (some ⟨gl,0,none⟩) m 5),.slice none 0 0]:=HF4.out.below hb5 HF4.out.lt
 have hl5:Blk Y5 gl 9 #[.string ⟨#[120]⟩,.string ⟨#[121]⟩,.string ⟨#[122]⟩,.string ⟨#[105]⟩,.string ⟨#[107]⟩]:=HL4.out.below hb5 HL4.out.lt
 have hsz5:Y4.heap.size<Y5.heap.size:=hi5.lt
 have HG5:Hid (Y.grownBy Y5 (some sb)):=Ω (HG4.out.trans (grown_below' (row:=some sb) hb5))
 have HS5:Hid (SrcAt Y5 sb):=Ω (HS4.out.below hb5)
 obtain ⟨gi,hgi⟩:∃g,Y4.heap.size=g:=⟨_,rfl⟩
 rw [hgi] at hi5 hsz5 ⊢
 have HGI:Hid (Y.heap.size≤gi):=Ω (by rw [←hgi];exact HG4.out.size)
 have hne1:gf≠gi:=by rw [←hgi];have:=HF4.out.lt;omega
 have HNE1:=Ω hne1
 have HI5:=Ω hi5;have HF5:=Ω hf5;have HL5:=Ω hl5
 clear hY5 hb5 hi5 hf5 hl5 hgi c0 c1 c2 c3 c4
 clear HF1 HF3 HL3 HF4 HL4 HS1 HS3 HS4 HG3 HG4 HCB
 have SO:Hid (∀X,Y5.grownBy X none→(fun X=>X.cell? ⟨gf,1,none⟩=some (.slice Ap np cpp)∧X.cell? ⟨gf,2,none⟩=some (.slice (some ⟨gl,0,none⟩) m 5)) X):=Ω (fun X h=>have hq:=HF5.out.grown h (fun e=>by cases e);⟨hq.cell 1,hq.cell 2⟩)
 have HX0:Hid (Y5.grownBy Y5.drew none):=Ω (grown_below' (Below.refl _ _).drew)
 refine wp_region_G 7 (fun X=>X.cell? ⟨gf,1,none⟩=some (.slice Ap np cpp)∧X.cell? ⟨gf,2,none⟩=some (.slice (some ⟨gl,0,none⟩) m 5)) (SO.out _ HX0.out) ?_
 change GL _ _ _ _ _ 7 8 (Array.replicate 8 false) _ _
 obtain ⟨X0,hX0⟩:∃X0,Y5.drew=X0:=⟨_,rfl⟩
 rw [hX0] at HX0 ⊢
 clear hX0
 refine gj 0 (.pointer (some ⟨gf,1,none⟩)) ?_ (hQ:=fun _ _ _ h=>HQ.out _ _ _ _ _ h)
 refine gS 1 (.slice Ap np cpp) [7] ?_ ?_ (hQ:=fun _ _ _ h=>HQ.out _ _ _ _ _ h)
 ·intro w2 hSw;obtain ⟨g0,g1⟩:=hSw;go_simp
 refine gj 3 (.pointer (some ⟨gf,2,none⟩)) ?_ (hQ:=fun _ _ _ h=>HQ.out _ _ _ _ _ h)
 refine gS 4 ((.slice (some ⟨gl,0,none⟩) m 5)) [7] ?_ ?_ (hQ:=fun _ _ _ h=>HQ.out _ _ _ _ _ h)
 ·intro w2 hSw;obtain ⟨g0,g1⟩:=hSw;go_simp
 have hw1:=news_strs (HPAR.out X0 (HG5.out.trans (grown_none HX0.out))) HNP.out
 have HW1:=Ω hw1
 clear hw1
 refine gO 2 (fun K hK=>?_)
 refine step_append_any _ (by rfl) _ _ _ (by rfl) Y5.heap.size 9 zs _ 1 16 Tryz.underlying47 hk0 hk1 hk2 hk3 rfl (by omega) (.slice none 0 0) 0 ([]) (by rfl) (World.ownsRow_nil _ _ _ _) (Ap) np cpp (x.2.map Value.string) (by rfl) HW1.out.1 HW1.out.2.1 HW1.out.2.2 (by unfold maxLen;omega) (by omega) (HX0.out.size) X0.heap.size rfl ?_
 intro v1 X1 hown1 hgrow1 hat1
 have hgn:X0.grownBy X1 none:=hgrow1
 have HX1:=Ω (HX0.out.trans hgn)
 have HO1:=Ω hown1
 have HA1:=Ω hat1
 clear hown1 hgrow1 hat1 hgn
 refine hK.out _ _ (SO.out _ HX1.out) ?_
 clear hK K
 try simp only [sG]
 have hl1:=HL5.out.grown HX1.out (fun e=>by cases e)
 have hw2:=news_strs ((strs_of_blk (n:=5) (l:=localsL) hl1 rfl rfl (by decide)).take hm5) (show m=(localsL.take m).length by rw [List.length_take];show m=min m 5;omega)
 have HW2:=Ω hw2
 clear hl1 hw2
 refine gO 5 (fun K hK=>?_)
 refine step_append_any _ (by rfl) _ _ _ (by rfl) Y5.heap.size 9 zs _ 1 16 Tryz.underlying47 hk0 hk1 hk2 hk3 rfl (by omega) (v1) (0+np) ([]++x.2.map Value.string) (by rfl) (HO1.out) (some ⟨gl,0,none⟩) m 5 ((localsL.take m).map Value.string) (by rfl) HW2.out.1 HW2.out.2.1 HW2.out.2.2 (by unfold maxLen;omega) (by omega) (HX1.out.size) X1.heap.size rfl ?_
 intro v2 X2 hown2 hgrow2 hat2
 have HX2:=Ω (grown_into HX1.out hgrow2 (fun k e=>(HO1.out.lt k e).1))
 obtain ⟨nn,hnn⟩:∃n,n=0+np+m:=⟨_,rfl⟩
 rw [←hnn] at hown2
 obtain ⟨Av2,cv2,hv2⟩:=own_form hown2
 subst hv2
 have hvs:=strs_of_own (ok:=fun b=>Y5.heap.size≤b∧b<X2.heap.size) (l:=x.2++localsL.take m) (by have h:=hown2;rw [List.nil_append,←List.map_append] at h;exact h) (fun g e=>hown2.lt g e)
 have hnv:nn=(x.2++localsL.take m).length:=by have h:=HNP.out;rw [hnn,List.length_append,List.length_take,←h];show 0+np+m=np+min m 5;omega
 have HVS:=Ω hvs;have HNV:=Ω hnv
 clear hown2 hgrow2 hat2 hnn hvs hnv
 refine hK.out _ _ (SO.out _ HX2.out) ?_
 clear hK K
 try simp only [sG]
 refine gj 6 (.pointer (some ⟨gi,0,none⟩)) ?_ (ht:=rfl) (hQ:=fun _ _ _ h=>HQ.out _ _ _ _ _ h)
 try simp only [sG]
 refine gL (fun K hK=>?_)
 have hi2:=HI5.out.grown HX2.out (fun e=>by cases e)
 have kc:=hi2.cell 0;have kz:=hi2.frozen 0
 clear hi2
 go_simp
 refine hK.out _ _ ?_
 clear hK K
 try simp only [sG]
 clear HW1 HW2 HO1 HA1
 go_upto_region 27 with fail
 refine wp_world ?_
 intro Y8 hY8
 have hx2:Y.grownBy X2 (some sb):=HG5.out.trans (grown_none HX2.out)
 have hgi2:Y.heap.size≤gi:=HGI.out
 have hg8:Y.grownBy Y8 (some sb):=by rw [←hY8];exact grown_own hx2 gi hgi2 0 _
 have hs8:SrcAt Y8 sb:=by rw [←hY8];exact (HS5.out.grown HX2.out (fun k e=>by cases e)).keep fun k hk=>bhs X2 ⟨gi,0,none⟩ _ k (by show k≠gi;have:=HBL.out;omega)
 have hf8:Blk Y8 gf 49 #[.string x.1,.slice Ap np cpp,(.slice (some ⟨gl,0,none⟩) m 5),.slice none 0 0]:=by rw [←hY8];exact (HF5.out.grown HX2.out (fun e=>by cases e)).far (p:=⟨gi,0,none⟩) HNE1.out _
 have hi8:Blk Y8 gi 61 #[.slice Av2 nn cv2,.slice Aa na ca,.slice (some ⟨b,off,none⟩) nh ch,.bool fr,.bool false]:=by rw [←hY8];exact (HI5.out.grown HX2.out (fun e=>by cases e)).set_ 0 _
 have hl8:Blk Y8 gl 9 #[.string ⟨#[120]⟩,.string ⟨#[121]⟩,.string ⟨#[122]⟩,.string ⟨#[105]⟩,.string ⟨#[107]⟩]:=by rw [←hY8];exact (HL5.out.grown HX2.out (fun e=>by cases e)).far (p:=⟨gi,0,none⟩) (HL5.out.unlike HI5.out (by decide)) _
 have hv8:SlR Y8 (fun b=>b<Y8.heap.size∧b≠sb) 1 RStr (.slice Av2 nn cv2) (x.2++localsL.take m):=by
  have hi5:=HI5.out.lt
  have hb0:=HBL.out.2.2
  rw [←hY8]
  exact HVS.out.imp (fun b hb=>⟨by simpa [World.setCell] using hb.2,by have:=hb.1;omega⟩) (fun b hb=>bhs X2 ⟨gi,0,none⟩ _ b (by show b≠gi;have:=hb.1;omega)) fun _ _ _ r=>r
 have hsc:ScAt Y8 sb (scpAt hs as_ x m) Av2 Aa (some ⟨b,off,none⟩) cv2 ca ch:=by
  have h1:=(HAR.out Y8 hg8).imp (ok':=fun q=>q<Y8.heap.size∧q≠sb) (fun q hq=>⟨ltle hq.1 (Nat.le_trans HWY.out hg8.size),hq.2.1⟩) (fun _ _=>rfl) fun _ _ _ r=>r
  have up2:∀q,(lo≤q∧q<W.heap.size)→q<Y8.heap.size∧q≠sb:=fun q hq=>⟨ltle hq.2 (Nat.le_trans HWY.out hg8.size),by have:=hq.1;have:=HB.out.ne;have:=HB.out.gt;omega⟩
  have h2:=(HHD.out Y8 hg8).imp (ok':=fun q=>q<Y8.heap.size∧q≠sb) up2 (fun _ _=>rfl) fun _ _ _ r=>mono_head _ Y8 _ (fun q=>q<Y8.heap.size∧q≠sb) _ _ r up2 (fun _ _=>rfl)
  exact sc_at (fun _ h=>h) (by rw [←HNV.out];exact hv8) h1 h2 HNA.out HNH.out
 have hst:Calls Tryz.prog 26 #[.agg #[.slice Av2 nn cv2,.slice Aa na ca,.slice (some ⟨b,off,none⟩) nh ch,.bool fr,.bool false],.pointer (some ⟨sb,0,none⟩),.int .i64 4] Y8 (StmtsPost Y8 sb (scpAt hs as_ x m) 4 false):=by
  have h:=stmts_all fr 4 (by decide) (by decide) Y8 sb (scpAt hs as_ x m) Av2 Aa (some ⟨b,off,none⟩) cv2 ca ch false hs8 hsc (scp_ok HGOOD.out HMEM.out hm5)
  rw [show (scpAt hs as_ x m).vars.length=nn from HNV.out.symm,show (scpAt hs as_ x m).arrs.length=na by rw [HNA.out];exact List.length_map _,show (scpAt hs as_ x m).funs.length=nh by rw [HNH.out];exact List.length_map _] at h
  exact h
 have HST:=Ω hst;have HF8:=Ω hf8;have HL8:=Ω hl8;have HG8:=Ω hg8
 obtain ⟨c0,c1,c2,c3,c4⟩:=hi8.c5
 have hgf8:=hf8.lt
 have HGF8:=Ω hgf8
 clear hY8 hx2 hgi2 hg8 hs8 hf8 hi8 hl8 hv8 hsc hst hgf8 SO HI5 HF5 HL5 HX0 HX1 HX2 HVS HG5 HS5
 go_upto_region 28 with fail
 refine HST.out.mono ?_
 rintro e Y9 ⟨⟨body,Ab,cb2,rfl,hgd,hlen,hrow⟩,hs9,hg9⟩
 have hf9:=HF8.out.grown hg9 (fun e=>by have:=sj e;have:=HGF.out;have:=HBL.out;omega)
 have hl9:=HL8.out.grown hg9 (fun e=>by have:=sj e;have:=HLY.out;have:=HBL.out;omega)
 have kc:=hf9.cell 3;have kz:=hf9.frozen 3
 have HF9:=Ω hf9;have HL9:=Ω hl9;have HG9:=Ω (HG8.out.trans hg9);have HS9:=Ω hs9;have HROW:=Ω hrow;have HGD:=Ω hgd;have HLEN:=Ω hlen;have HSZ:=Ω hg9.size
 clear hgd hlen hrow hs9 hg9 hf9 hl9 c0 c1 c2 c3 c4
 go_upto_region 28 with fail
 refine wp_world ?_
 intro X1 hX1
 have hgy:Y.heap.size≤gf:=Nat.le_of_eq HGF.out
 have hg1:Y.grownBy X1 (some sb):=by rw [←hX1];exact grown_own HG9.out gf hgy 3 _
 have hs1:SrcAt X1 sb:=by rw [←hX1];exact HS9.out.keep fun k hk=>bhs Y9 ⟨gf,3,none⟩ _ k (by show k≠gf;have:=HBL.out;omega)
 have hf1:Blk X1 gf 49 #[.string x.1,.slice Ap np cpp,(.slice (some ⟨gl,0,none⟩) m 5),(.slice Ab body.length cb2)]:=by rw [←hX1];exact HF9.out.set_ 3 _
 have hl1:Blk X1 gl 9 #[.string ⟨#[120]⟩,.string ⟨#[121]⟩,.string ⟨#[122]⟩,.string ⟨#[105]⟩,.string ⟨#[107]⟩]:=by rw [←hX1];exact HL9.out.far (p:=⟨gf,3,none⟩) (HL9.out.unlike HF9.out (by decide)) _
 have hbd:SlR X1 (okX lo X1 (.slice Ax nx cx)) 5 (RStmt 8 X1 (okX lo X1 (.slice Ax nx cx))) (.slice Ab body.length cb2) body:=by
  rw [←hX1]
  have up:∀q,fresh Y8 Y9 q→okX lo (Y9.setCell ⟨gf,3,none⟩ (.slice Ab body.length cb2)) (.slice Ax nx cx) q:=fun q hq=>⟨by have:=hq.1;have:=HG8.out.size;have:=HWY.out;have:=HB.out.low;omega,by simpa [World.setCell] using hq.2,fun e=>by have h1:=HOW.out.row.lt _ e;have:=hq.1;have:=HG8.out.size;omega⟩
  have kp:Keeps (fresh Y8 Y9) Y9 (Y9.setCell ⟨gf,3,none⟩ (.slice Ab body.length cb2)):=fun q hq=>bhs Y9 ⟨gf,3,none⟩ _ q (by show q≠gf;have:=hq.1;have:=HGF8.out;omega)
  exact SlR.imp HROW.out up kp fun _ _ _ r=>r.imp up kp
 have hlo:SlR X1 (okX lo X1 (.slice Ax nx cx)) 1 RStr (.slice (some ⟨gl,0,none⟩) m 5) (localsL.take m):=
  ((strs_of_blk (n:=5) (l:=localsL) hl1 rfl rfl (by decide)).take hm5).imp (ok':=okX lo X1 (.slice Ax nx cx)) (fun q hq=>by subst hq;exact ⟨by have:=HLY.out;have:=HWY.out;have:=HB.out.low;omega,hl1.lt,fun e=>by have h1:=HOW.out.row.lt _ e;have:=HLY.out;omega⟩) (fun _ _=>rfl) fun _ _ _ r=>r
 have hrf:RFuncM 8 X1 (okX lo X1 (.slice Ax nx cx)) [.string x.1,.slice Ap np cpp,.slice (some ⟨gl,0,none⟩) m 5,.slice Ab body.length cb2] (LFunc.mk x.1 x.2 (localsL.take m) body):=⟨_,_,_,rfl,HPAR.out X1 hg1,hlo,hbd⟩
 have q0:=hf1.cell 0
 have q1:=hf1.cell 1
 have q2:=hf1.cell 2
 have q3:=hf1.cell 3
 have hb1:=HB.out.step (mono_func 8) hg1 hs1
 have p0:=hb1.blk.cell 0;have p1:=hb1.blk.cell 1
 have hown:=HB.out.row2 (mono_func 8) hg1 (below1 X1 (.cells #[.string x.1,.slice Ap np cpp,.slice (some ⟨gl,0,none⟩) m 5,.slice Ab body.length cb2] 49)) HNX.out HOW.out
 have hsz:W.heap.size≤X1.heap.size:=Nat.le_trans HWY.out hg1.size
 have HG1:=Ω hg1;have HS1:=Ω hs1;have HRF:=Ω hrf
 clear hX1 hgy hg1 hs1 hf1 hl1 hbd hlo hrf hb1 HF8 HL8 HF9 HL9 HROW kc kz
 go_wp2_with (at_builtin;refine wpList_append_lies _ rfl _ _ _ rfl W.heap.size 49 zi _ 4 88 Tryz.underlying25 hj0 hj1 hj2 hj3 rfl (by decide) (.slice Ax nx cx) nx css.flatten rfl hown ⟨X1.heap.size,0,none⟩ 1 1 [.string x.1,.slice Ap np cpp,.slice (some ⟨gl,0,none⟩) m 5,.slice Ab body.length cb2] rfl rfl (World.news_of_block (cs:=#[.string x.1,.slice Ap np cpp,.slice (some ⟨gl,0,none⟩) m 5,.slice Ab body.length cb2]) (t:=49) (fr:=(0,0)) (heap_alloc_new X1 _)) (by simp [Value.oneCell']) (by decide) (by unfold maxLen;omega) (by omega) (by simp;omega) (X1.heap.size+1) (by simp) ?_;intro gp cp X3 hown3 hgrow3 hat3 hlt3;have hb3:=HB.out.app (mono_func 8) HG1.out HS1.out (below1 X1 (.cells #[.string x.1,.slice Ap np cpp,.slice (some ⟨gl,0,none⟩) m 5,.slice Ab body.length cb2] 49)) HNX.out HOW.out (fun _ h=>h) HRF.out rfl trivial hown3 hgrow3 (by rcases hat3 with h|h;exact .inl h;exact .inr (by rw [h];simp));have HB3:=Ω hb3;have kc:=hb3.blk.cell 1;have kz:=hb3.blk.frozen 1;clear hb3 hown3 hgrow3 hat3)
 exact HKK.out _ _ _ _ _ _ _ _ _ _ _ _ _ _ _ _ _ _ _ _ _ _ _ _ _ _ _ _ _ _ _ ⟨_,_,m,body,hm,HGD.out,HLEN.out,HB3.out.set (mono_func 8) 1 _⟩
end Go.Proofs.YtmignlclfbaifaaGreat
namespace Go.Proofs.YtmignlclfbaifaaGreat
open Go.RowKit
def downTo (f:Nat→ByteArray) (n i:Nat):List ByteArray:=(List.range (n-i)).map fun j=>f (n-j)
theorem downTo_self (f:Nat→ByteArray) (n:Nat):downTo f n n=[]:=by unfold downTo;rw [Nat.sub_self];rfl
theorem downTo_step (f:Nat→ByteArray) {n i:Nat} (h:i+1≤n):downTo f n i=downTo f n (i+1)++[f (i+1)]:=by
 unfold downTo
 rw [show n-i=(n-(i+1))+1 by omega,List.range_succ,List.map_append]
 show _=_++[f (i+1)]
 rw [List.map_singleton,show n-(n-(i+1))=i+1 by omega]
structure GenP (p:LProg):Prop where
 fewA:p.arrays.length≤2
 few:p.funcs.length≤3
 pos:0<p.funcs.length
 each:∀f∈p.funcs,f.params.length≤6∧f.locals.length≤5∧(∀s∈f.body,thinS 4 s)∧f.body.length≤4
def FunOk (hs:List (ByteArray × List ByteArray)) (as_:List (ByteArray × Int)) (f:LFunc):Prop:=∃m,m<6∧f.locals=localsL.take m∧(∀s∈f.body,GoodS (scpAt hs as_ (f.name,f.params) m) 4 false s)∧f.body.length≤4
theorem gen_of {l:List (ByteArray × Int)} {ly:List (ByteArray × List ByteArray)} {lz:List LFunc} {k0 k1:Nat} (h0:k0<3) (h1:k1<3) (hl:l.length=k0)
  (hy:ly.map (·.1)=mainN :: downTo nmF k1 0) (hp:∀x∈ly,∃k,k<7∧x.2=paramsL.take k) (hz:lz.map (fun f=>(f.name,f.params))=ly) (hf:∀f∈lz,FunOk ly l f):GenP ⟨l,lz⟩:=by
 have hn:lz.length=k1+1:=by
  have h:=congrArg List.length hy
  rw [←hz,List.length_map,List.length_map] at h
  rw [h];unfold downTo;simp
 refine ⟨by show l.length≤2;omega,by show lz.length≤3;omega,by show 0<lz.length;omega,fun f hf2=>?_⟩
 obtain ⟨m,q1,q2,q3,q4⟩:=hf f hf2
 obtain ⟨k,q5,q6⟩:=hp (f.name,f.params) (by rw [←hz];exact List.mem_map.2 ⟨f,hf2,rfl⟩)
 have q6':f.params=paramsL.take k:=q6
 exact ⟨by rw [q6',List.length_take];omega,by rw [q2,List.length_take];omega,q3,q4⟩
theorem heads_of {l:List (ByteArray × Int)} {ly:List (ByteArray × List ByteArray)} {k0 k1:Nat} (h0:k0<3) (h1:k1<3) (hl:l.length=k0)
  (hy:ly.map (·.1)=mainN :: downTo nmF k1 0) (hp:∀x∈ly,∃k,k<7∧x.2=paramsL.take k):HeadsOk ly l:=by
 refine ⟨fun x hx=>⟨trivial,?_⟩,?_,by omega⟩
 ·obtain ⟨k,hk,e⟩:=hp x hx
  rw [e,List.length_take];omega
 ·have h:=congrArg List.length hy
  rw [List.length_map] at h
  rw [h];unfold downTo;simp;omega
theorem Grow2.below_of {w w1 X:World} {sb g B:Nat} (h:Grow2 w1 X sb g) (hb:Below B w w1) (hB:B≤w1.heap.size) (h1:B≤sb) (h2:B≤g):Below B w X:=
 hb.trans ⟨h.os,h.tape,h.output,h.size,fun k hk=>h.block k (by omega) (by omega) (by omega)⟩
def ProgPost (w:World):Ending→World→Prop:=fun e w'=>
 ∃(p:LProg) (A1 A2:Option Addr) (c1 c2 B1 lo B3:Nat) (css1 css2:List (List Value)),e=.returned (.agg #[.slice A1 p.arrays.length c1,.slice A2 p.funcs.length c2])∧GenP p∧Below w.heap.size w w'∧w.heap.size≤B1∧B1≤lo∧lo≤B3∧
  OwnL w' B1 53 2 RArrM (.slice A1 p.arrays.length c1) p.arrays css1∧(∀k,(.slice A1 p.arrays.length c1:Value).ownBlock=some k→k<lo)∧OwnX w' (okX lo w' (.slice A2 p.funcs.length c2)) B3 49 4 (RFuncM 8) (.slice A2 p.funcs.length c2) p.funcs css2
theorem src_take {X:World} {sb:Nat} {A:Option Addr} {c n:Nat} {l:List Int} (hb:Blk X sb 58 #[.slice A n c,.int .i64 0]) (hs:SlR X (· < sb) 1 RInt (.slice A l.length c) l) (hI:∀x∈l,I64 x) (hn:n≤l.length) (h4:n≤400):SrcAt X sb:=by
 have hl:(l.take n).length=n:=by rw [List.length_take];omega
 refine ⟨A,c,l.take n,0,by rw [hl];exact hb,?_,Nat.zero_le _,fun x hx=>hI x (List.mem_of_mem_take hx),by omega⟩
 have h:=hs.take hn
 rw [hl];exact h
section
set_option maxRecDepth 100000
set_option maxHeartbeats 8000000
theorem prog_any (fr:Bool) (raw:List Int) (A:Option Addr) (c:Nat) (w:World) (hraw:SlR w (· < w.heap.size) 1 RInt (.slice A raw.length c) raw) (hI:∀x∈raw,I64 x) :
  Calls Tryz.prog 11 #[.slice A raw.length c,.bool fr] w (ProgPost w):=by
 obtain ⟨rl,hrl⟩:∃n,n=raw.length:=⟨_,rfl⟩
 have hlm:=hraw.len_le
 unfold maxLen at hlm
 have HRL:=Ω hrl
 have hrlc:rl≤c:=by obtain ⟨_,_,h,h1,_⟩:=hraw;injection h with _ _ h3;rw [hrl,h3];exact h1
 rw [←hrl] at hraw hlm ⊢
 have HRAW:=Ω hraw
 have HII:=Ω hI
 clear hraw hI hrl
 go_enter Tryz.func11,Tryz.ntmps11
 go_upto_region 2 with fail
 refine wp_world ?_
 intro W hW
 obtain ⟨rb,hrb⟩:∃b,w.heap.size=b:=⟨_,rfl⟩
 have hBw:Below w.heap.size w W:=by rw [←hW];exact below2 _ _ _
 have hr0:Blk W rb 27 #[.slice none 0 0,.slice none 0 0]:=by rw [←hW,←hrb];exact (Blk.new _ _ _).alloc _
 have hs0:Blk W (rb+1) 58 #[.slice A rl c,.int .i64 0]:=by rw [←hW,←hrb];exact Blk.new_at _ _ _ (by simp)
 have hsz:W.heap.size=rb+2:=by rw [←hW,←hrb];simp
 have HWS:=Ω hsz
 have HWB:=Ω hBw
 have HRB:=Ω hrb
 have HR0:=Ω hr0
 have HS0:=Ω hs0
 rw [show (⟨w.heap.size,0,none⟩:Addr)=⟨rb,0,none⟩ by rw [hrb]]
 rw [show (⟨w.heap.size+1,0,none⟩:Addr)=⟨rb+1,0,none⟩ by rw [hrb]]
 obtain ⟨sb,hsb⟩:∃s,rb+1=s:=⟨_,rfl⟩
 rw [hsb] at HS0 ⊢
 have HSB:=Ω hsb
 clear hW hBw hr0 hs0 hsz hrb hsb
 have k0:=HS0.out.cell 0
 have z0:=HS0.out.frozen 0
 obtain ⟨bq,hbq⟩:∃b,b=decide (400<rl):=⟨_,rfl⟩
 have HBQ:=Ω hbq
 clear hbq
 go_cut [20] (fun s wx=>s=.bool bq∧wx=W)
 case first=>
  by_cases h4:400<rl
  ·have d1:decide ((rl:Int) > 400)=true:=dT (by omega)
   have d2:decide (400<(rl:Int))=true:=dT (by omega)
   have hx:bq=true:=by rw [HBQ.out];exact dT h4
   have HXX:=Ω hx
   clear hx
   go_wp2
   go_meet
   case rel=>exact ⟨by rw [HXX.out],rfl⟩
  ·have d1:decide ((rl:Int) > 400)=false:=dF (by omega)
   have d2:decide (400<(rl:Int))=false:=dF (by omega)
   have hx:bq=false:=by rw [HBQ.out];exact dF h4
   have HXX:=Ω hx
   clear hx
   go_wp2
   go_meet
   case rel=>exact ⟨by rw [HXX.out],rfl⟩
 case rest=>
 obtain ⟨rfl,hw⟩:=hcut
 rw [hw]
 clear hw
 go_upto_if 20 with fail
 go_cut [] (fun wx=>SrcAt wx sb∧Blk wx rb 27 #[.slice none 0 0,.slice none 0 0]∧Below w.heap.size w wx∧wx.heap.size=rb+2)
 case first=>
  have hrs:SlR W (· < sb) 1 RInt (.slice A raw.length c) raw:=by
   have h:=HRAW.out
   rw [←HRL.out]
   exact h.imp (fun q hq=>by have:=HRB.out;have:=HSB.out;omega) (fun q hq=>HWB.out.block q hq) fun _ _ _ r=>r
  have HRS:=Ω hrs
  clear hrs
  cases bq with
  |true=>
   have h4:400<rl:=of_decide_eq_true HBQ.out.symm
   have d1:(400:Int)≤(rl:Int):=by omega
   have d2:(400:Int)≤(c:Int):=by omega
   have d3:400≤c:=by omega
   go_wp2
   go_meet
   case rel=>
    refine ⟨src_take (n:=400) (HS0.out.set_ 0 _) ?_ HII.out (by have:=HRL.out;omega) (Nat.le_refl _),HR0.out.far (p:=⟨sb,0,none⟩) (by show rb≠sb;have:=HSB.out;omega) _,HWB.out.setCell (p:=⟨sb,0,none⟩) (by show w.heap.size≤sb;have:=HSB.out;have:=HRB.out;omega) _,by have:=HWS.out;simpa [World.setCell] using this⟩
    exact HRS.out.imp (fun _ h=>h) (fun q hq=>bhs W ⟨sb,0,none⟩ _ q (by show q≠sb;omega)) fun _ _ _ r=>r
  |false=>
   have h4:¬400<rl:=of_decide_eq_false HBQ.out.symm
   go_wp2
   go_meet
   case rel=>exact ⟨src_take (n:=rl) HS0.out HRS.out HII.out (by rw [HRL.out];exact Nat.le_refl _) (by omega),HR0.out,HWB.out,HWS.out⟩
 case rest=>
 obtain ⟨hsr,hr1,hb1,hz1⟩:=hcut
 have HSR:=Ω hsr
 have HR1:=Ω hr1
 have HB1:=Ω hb1
 have HZ1:=Ω hz1
 clear hsr hr1 hb1 hz1 HS0 HR0 HWB HWS HBQ HRAW HII k0 z0
 go_upto_region 6 with fail
 refine wp_world ?_
 intro W1 hW1
 have hbw:Below wc.heap.size wc W1:=by rw [←hW1];exact below2 _ _ _
 obtain ⟨cb,hcb⟩:∃b,wc.heap.size=b:=⟨_,rfl⟩
 have hc1:Blk W1 cb 61 #[.slice none 0 0,.slice none 0 0,.slice none 0 0,.bool fr,.bool false]:=by rw [←hW1,←hcb];exact (Blk.new _ _ _).alloc _
 have hp1:Blk W1 (cb+1) 27 #[.slice none 0 0,.slice none 0 0]:=by rw [←hW1,←hcb];exact Blk.new_at _ _ _ (by simp)
 have hsz:W1.heap.size=cb+2:=by rw [←hW1,←hcb];simp
 have hr1:Blk W1 rb 27 #[.slice none 0 0,.slice none 0 0]:=HR1.out.below hbw HR1.out.lt
 have hs1:SrcAt W1 sb:=HSR.out.below hbw
 have hord:rb<sb∧sb<cb:=by have:=HSB.out;have:=HZ1.out;omega
 have HW1:Hid (Below w.heap.size w W1):=Ω (HB1.out.trans (hbw.mono HB1.out.size))
 rw [show (⟨wc.heap.size,0,none⟩:Addr)=⟨cb,0,none⟩ by rw [hcb]]
 rw [show (⟨wc.heap.size+1,0,none⟩:Addr)=⟨cb+1,0,none⟩ by rw [hcb]]
 obtain ⟨pb,hpb⟩:∃s,cb+1=s:=⟨_,rfl⟩
 rw [hpb] at hp1 ⊢
 have hwp:pb<W1.heap.size:=hp1.lt
 have HORD:Hid (rb<sb∧sb<cb∧cb<pb∧pb<W1.heap.size∧w.heap.size=rb):=Ω ⟨hord.1,hord.2,by omega,hwp,HRB.out⟩
 have HC1:=Ω hc1
 have HR1:=Ω hr1
 have hbx:BoxG 53 2 RArrM W1 sb W1 pb 27 #[.slice none 0 0,.slice none 0 0] (fun _=>True) (.slice none 0 0) ([]):=BoxG.begin_ hwp (by omega) (by omega) hs1 hp1
 have HBX:=Ω hbx
 clear hW1 hbw hcb hc1 hp1 hsz hr1 hs1 hord hpb hwp hbx HSR HB1 HZ1
 have HCS1:Hid (cb≠sb):=Ω (by have:=HORD.out;omega)
 have HCP1:Hid (cb≠pb):=Ω (by have:=HORD.out;omega)
 go_upto_block 0 with fail
 refine (next_any W1 sb 3 (by omega) HBX.out.src).mono ?_
 rintro e Wa ⟨⟨k0,hk0,rfl⟩,hsa,hga⟩
 have HBA:=Ω (HBX.out.step mono_arr hga hsa)
 clear hsa hga
 go_wp2
 go_loopw [8] (fun s wr=>∃(i nx cx:Nat) (Ax:Option Addr) (l:List (ByteArray × Int)),i≤k0∧s=.int .i64 i∧nx=l.length∧l.length+i=k0∧BoxG 53 2 RArrM W1 sb wr pb 27 #[.slice Ax nx cx,.slice none 0 0] (fun _=>True) (.slice Ax nx cx) (l)) (fun s _=>(intOf s).toNat)
 case atStart=>exact ⟨k0,0,0,none,[],Nat.le_refl _,rfl,rfl,Nat.zero_add _,HBA.out⟩
 case round=>
  obtain ⟨i,nx,cx,Ax,l,hi,rfl,hnx,hl,hb⟩:=hrel
  have HB:=Ω hb
  have HNX:=Ω hnx
  have HL:=Ω hl
  have hnx2:nx≤2:=by omega
  clear hb hnx hl
  rcases Nat.eq_zero_or_pos i with rfl|hi0
  case inr=>
   obtain ⟨j,hj⟩:∃j,i=j+1:=⟨i-1,by omega⟩
   have HJ:=Ω hj
   have d1:decide ((i:Int) > 0)=true:=dT (by omega)
   have d2:decide (0<(i:Int))=true:=dT (by omega)
   have hi3:i<3:=by omega
   have HI3:=Ω hi3
   have HNX2:=Ω hnx2
   clear hj
   go_upto_block 1 with fail
   refine ra_any _ (by kernel_rfl) wr HI3.out HB.out HNX.out HNX2.out HC1.out HCS1.out HCP1.out _ _ _ _ _ _ _ _ _ _ _ _ _ _ _ _ _ _ _ _ _ _ _ _ _ _ _ _ _ _ _ _ _ _ _ _ _ _ _ _ _ _ _ _ _ _ _ _ _ _ _ _ _ _ _ _ _ _ _ _ _ _ _ _ _ _ _ _ _ _ _ _ _ _ _ _ _ _ _ _ _ _ _ _ _ _ _ _ _ _ _ _ _ _ _ _ _ _ _ _ _ _ _ _ _ _ _ _ _ _ _ _ _ _ _ _ ?_
   intros
   rename_i w' hpost
   obtain ⟨Ap,cp,xa,hb2⟩:=hpost
   have HB2:=Ω hb2
   clear hb2
   go_wp2
   go_roundw
   case rel=>
    refine ⟨j,nx+1,cp,Ap,_,by have:=HJ.out;omega,by have:=HJ.out;go_num,by rw [List.length_append,List.length_singleton,←HNX.out],?_,HB2.out⟩
    rw [List.length_append,List.length_singleton]
    have h1:=HL.out;have h2:=HJ.out;omega
   case measure=>simp [intOf];omega
  case inl=>
   obtain ⟨Z1,hz1⟩:∃x,x=wr:=⟨wr,rfl⟩
   subst hz1
   have hc1:Blk Z1 cb 61 #[.slice none 0 0,.slice none 0 0,.slice none 0 0,.bool fr,.bool false]:=HB.out.gr.other HC1.out (by have:=HORD.out;omega) (by have:=HORD.out;omega)
   have p0:=HB.out.blk.cell 0
   have p1:=HB.out.blk.cell 1
   have c1:=hc1.cell 1
   have f1:=hc1.frozen 1
   have hcp:cb≠pb:=by have:=HORD.out;omega
   have hpc:pb≠cb:=fun e=>hcp e.symm
   have HC1:=Ω hc1
   clear hc1
   go_upto_region 13 with fail
   go_upto_region 14 with fail
   refine wp_world ?_
   intro W2 hW2
   have hc2:Blk W2 cb 61 #[.slice none 0 0,.slice Ax nx cx,.slice none 0 0,.bool fr,.bool false]:=by rw [←hW2];exact HC1.out.set_ 1 _
   have hp2:Blk W2 pb 27 #[.slice Ax nx cx,.slice none 0 0]:=by rw [←hW2];exact HB.out.blk.far (p:=⟨cb,1,none⟩) hpc _
   have hs2:SrcAt W2 sb:=by rw [←hW2];exact HB.out.src.keep fun q hq=>bhs Z1 ⟨cb,1,none⟩ _ q (by show q≠cb;have:=HORD.out;omega)
   have hz2:W2.heap.size=Z1.heap.size:=by rw [←hW2];simp [World.setCell]
   have hr2:Blk W2 rb 27 #[.slice none 0 0,.slice none 0 0]:=by rw [←hW2];exact (HB.out.gr.other HR1.out (by have:=HORD.out;omega) (by have:=HORD.out;omega)).far (p:=⟨cb,1,none⟩) (by show rb≠cb;have:=HORD.out;omega) _
   have hw2:Below w.heap.size w W2:=by rw [←hW2];exact (HB.out.gr.below_of HW1.out HW1.out.size (by have:=HORD.out;omega) (by have:=HORD.out;omega)).setCell (p:=⟨cb,1,none⟩) (by show w.heap.size≤cb;have:=HORD.out;omega) _
   have HKA:Hid (∀b,W1.heap.size≤b→W2.heap[b]?=Z1.heap[b]?):=Ω (fun b hb=>by rw [←hW2];exact bhs Z1 ⟨cb,1,none⟩ _ b (by show b≠cb;have:=HORD.out;omega))
   have h12:W1.heap.size≤W2.heap.size:=by rw [hz2];exact HB.out.gr.size
   have HLA:Hid (W2.heap.size=Z1.heap.size):=Ω hz2
   have H12:=Ω h12
   have hbh:BoxG 49 4 RHead W2 sb W2 cb 61 #[.slice none 0 0,.slice Ax nx cx,.slice none 0 0,.bool fr,.bool false] (fun _=>True) (.slice none 0 0) ([]):=BoxG.begin_ hc2.lt (by have:=HORD.out;omega) (by have:=HORD.out;omega) hs2 hc2
   have HP2:=Ω hp2
   have HR2:=Ω hr2
   have HW2:=Ω hw2
   have HBH:=Ω hbh
   have hgr:W2.grownBy W2 (some sb):=grown_below' (Below.refl _ _)
   have HGR:=Ω hgr
   have HS2:=Ω hs2
   have OWN:=(OwnL.nil_ W2 W2.heap.size 49 4 RHead)
   have hown:=HBH.out.row2 mono_head hgr (below1 W2 (.cells #[.string ⟨#[109,97,105,110]⟩,.slice none 0 0,.slice none 0 0,.slice none 0 0] 49)) (n:=0) rfl OWN
   have c2:=hc2.cell 2
   obtain ⟨zi,hj0,hj1,hj2,hj3⟩:=info_parts info_func
   clear hW2 hc2 hp2 hs2 hz2 hr2 hw2 h12 hbh hgr p0 p1 c1 f1
   go_upto_region 15 with (at_builtin;refine wpList_append_lies _ rfl _ _ _ rfl W2.heap.size 49 zi _ 4 88 Tryz.underlying25 hj0 hj1 hj2 hj3 rfl (by decide) (.slice none 0 0) 0 ([]:List Value) rfl hown ⟨W2.heap.size,0,none⟩ 1 1 [.string ⟨#[109,97,105,110]⟩,.slice none 0 0,.slice none 0 0,.slice none 0 0] rfl rfl (World.news_of_block (cs:=#[.string ⟨#[109,97,105,110]⟩,.slice none 0 0,.slice none 0 0,.slice none 0 0]) (t:=49) (fr:=(0,0)) (heap_alloc_new W2 _)) (by simp [Value.oneCell']) (by decide) (by unfold maxLen;omega) (by omega) (by simp) (W2.heap.size+1) (by simp) ?_;intro gp cp X3 hown3 hgrow3 hat3 hlt3;have hb3:=HBH.out.app mono_head HGR.out HS2.out (below1 W2 (.cells #[.string ⟨#[109,97,105,110]⟩,.slice none 0 0,.slice none 0 0,.slice none 0 0] 49)) (n:=0) rfl OWN (ok:=fun _=>False) (fun _ h=>h.elim) (x:=(mainN,[])) ⟨none,0,rfl,SlR.nil_ _ _ _ _⟩ rfl trivial hown3 hgrow3 (by rcases hat3 with h|h;exact .inl h;exact .inr (by rw [h];simp));have HB3:=Ω hb3;have kc:=hb3.blk.cell 2;have kz:=hb3.blk.frozen 2;clear hb3 hown3 hgrow3 hat3)
   refine wp_world ?_
   intro Wb hWb
   have hbb:BoxG 49 4 RHead W2 sb Wb cb 61 #[.slice none 0 0,.slice Ax nx cx,.slice (some ⟨gp,0,none⟩) 1 cp,.bool fr,.bool false] (fun _=>True) (.slice (some ⟨gp,0,none⟩) 1 cp) ([(mainN,[])]):=by rw [←hWb];exact HB3.out.set mono_head 2 _
   have HBB:=Ω hbb
   clear hWb hbb hown c2 kc kz
   go_upto_block 2 with fail
   refine (next_any Wb sb 3 (by omega) HBB.out.src).mono ?_
   rintro e Wc ⟨⟨k1,hk1,rfl⟩,hsa,hga⟩
   have HBC:=Ω (HBB.out.step mono_head hga hsa)
   clear hsa hga
   go_wp2
   go_loopw [10] (fun s wr=>∃(i ny cy:Nat) (Ay:Option Addr) (ly:List (ByteArray × List ByteArray)),i≤k1∧s=.int .i64 i∧ny=ly.length∧ly.map (·.1)=mainN :: downTo nmF k1 i∧(∃r,ly=(mainN,[]) :: r)∧(∀x∈ly,∃k,k<7∧x.2=paramsL.take k)∧BoxG 49 4 RHead W2 sb wr cb 61 #[.slice none 0 0,.slice Ax nx cx,.slice Ay ny cy,.bool fr,.bool false] (fun _=>True) (.slice Ay ny cy) (ly)) (fun s _=>(intOf s).toNat)
   case atStart=>exact ⟨k1,1,cp,some ⟨gp,0,none⟩,[(mainN,[])],Nat.le_refl _,rfl,rfl,by rw [downTo_self];rfl,⟨[],rfl⟩,fun x hx=>by obtain rfl:=List.mem_singleton.1 hx;exact ⟨0,by omega,rfl⟩,HBC.out⟩
   case round=>
    obtain ⟨i,ny,cy,Ay,ly,hi,rfl,hny,hy,hmn,hpr,hb⟩:=hrel
    have HBY:=Ω hb
    have HNY:=Ω hny
    have HY:=Ω hy
    have HMN:=Ω hmn
    have HPR:=Ω hpr
    have hny3:ny≤3:=by
     have h:=congrArg List.length hy
     rw [List.length_map,←hny] at h
     rw [h];unfold downTo;simp;omega
    clear hb hny hy hmn hpr
    rcases Nat.eq_zero_or_pos i with rfl|hi0
    case inr=>
     obtain ⟨j,hj⟩:∃j,i=j+1:=⟨i-1,by omega⟩
     have HJ:=Ω hj
     have d1:decide ((i:Int) > 0)=true:=dT (by omega)
     have d2:decide (0<(i:Int))=true:=dT (by omega)
     have hi3:i<3:=by omega
     have HI3:=Ω hi3
     have HNY3:=Ω hny3
     clear hj
     go_upto_block 3 with fail
     refine rf_any _ (by kernel_rfl) wr HI3.out HBY.out HNY.out HNY3.out _ _ _ _ _ _ _ _ _ _ _ _ _ _ _ _ _ _ _ _ _ _ _ _ _ _ _ _ _ _ _ _ _ _ _ _ _ _ _ _ _ _ _ _ _ _ _ _ _ _ _ _ _ _ _ _ _ _ _ _ _ _ _ _ _ _ _ _ _ _ _ _ _ _ _ _ _ _ _ _ _ _ _ _ _ _ _ _ _ _ _ _ _ _ _ _ _ _ _ _ _ _ _ _ _ _ _ _ _ _ _ _ _ _ _ _ _ _ ?_
     intros
     rename_i w' hpost
     obtain ⟨Ap,cp,k,hk,hb2⟩:=hpost
     have HB2:=Ω hb2
     have HK:=Ω hk
     clear hk hb2
     go_wp2
     go_roundw
     case rel=>
      refine ⟨j,ny+1,cp,Ap,_,by have:=HJ.out;omega,by have:=HJ.out;go_num,by rw [List.length_append,List.length_singleton,←HNY.out],?_,?_,?_,HB2.out⟩
      ·rw [List.map_append,HY.out,HJ.out,downTo_step nmF (show j+1≤k1 by have:=HJ.out;omega)];rfl
      ·obtain ⟨r,hr⟩:=HMN.out;exact ⟨r++[(nmF i,paramsL.take k)],by rw [hr];rfl⟩
      ·intro x hx
       rcases List.mem_append.1 hx with hx|hx
       ·exact HPR.out x hx
       ·obtain rfl:=List.mem_singleton.1 hx;exact ⟨k,HK.out,rfl⟩
     case measure=>simp [intOf];omega
    case inl=>
     obtain ⟨W3,hz3⟩:∃x,x=wr:=⟨wr,rfl⟩
     subst hz3
     have HY0:Hid (ly.map (·.1)=mainN :: downTo nmF k1 0):=Ω HY.out
     have HL0:Hid (l.length=k0):=Ω HL.out
     have hg23:=HBY.out.gr
     have hp3:Blk W3 pb 27 #[.slice Ax nx cx,.slice none 0 0]:=hg23.other HP2.out (by have:=HORD.out;omega) (by have:=HORD.out;omega)
     have hr3:Blk W3 rb 27 #[.slice none 0 0,.slice none 0 0]:=hg23.other HR2.out (by have:=HORD.out;omega) (by have:=HORD.out;omega)
     have hw3:Below w.heap.size w W3:=hg23.below_of HW2.out HW2.out.size (by have:=HORD.out;omega) (by have:=HORD.out;omega)
     have hka:∀b,W1.heap.size≤b→b<Z1.heap.size→W3.heap[b]?=Z1.heap[b]?:=fun b h1 h2=>(hg23.block b (by rw [HLA.out];exact h2) (by have:=HORD.out;omega) (by have:=HORD.out;omega)).trans (HKA.out b h1)
     have hh:=HBY.out.list mono_head
     have ha:SlR W3 (fun b=>b<W3.heap.size∧b≠sb∧b≠pb) 2 RArr (.slice Ax nx cx) l:=(HB.out.list mono_arr).imp (fun b hb=>⟨by have:=hg23.size;have:=HLA.out;omega,by have:=hb.1;have:=HORD.out;omega,by have:=hb.1;have:=HORD.out;omega⟩) (fun b hb=>hka b hb.1 hb.2) fun _ _ _ r=>r
     have hgood:=heads_of hk0 hk1 HL0.out HY0.out HPR.out
     have hbf:BoxX 49 4 (RFuncM 8) W2.heap.size W3 sb W3 pb 27 #[.slice Ax nx cx,.slice none 0 0] (fun _=>True) (.slice none 0 0) ([]):=BoxX.begin_ hp3.lt (by have:=HORD.out;have:=hp3.lt;omega) (by have:=HORD.out;omega) (by have:=HORD.out;have:=H12.out;omega) hg23.size HBY.out.src hp3
     have HP3:=Ω hp3
     have HR3:=Ω hr3
     have HW3:=Ω hw3
     have HKA3:=Ω hka
     have HHH:=Ω hh
     have HAA:=Ω ha
     have HGD:=Ω hgood
     have HBF:=Ω hbf
     have HC3:=Ω HBY.out.blk
     have HG23:=Ω hg23
     have hcs:cb≠sb:=by have:=HORD.out;omega
     have HCS:=Ω hcs
     have HCP:=Ω hcp
     clear hg23 hp3 hr3 hw3 hka hh ha hgood hbf hcs hcp hpc
     go_wp2
     go_loopw [12] (fun s wr=>∃(i nz cz:Nat) (Az:Option Addr) (lz:List LFunc),i≤ly.length∧s=.int .i64 i∧nz=lz.length∧lz.map (fun f=>(f.name,f.params))=ly.take i∧(∀f∈lz,FunOk ly l f)∧BoxX 49 4 (RFuncM 8) W2.heap.size W3 sb wr pb 27 #[.slice Ax nx cx,.slice Az nz cz] (fun _=>True) (.slice Az nz cz) (lz)) (fun s _=>ly.length-(intOf s).toNat)
     case atStart=>exact ⟨0,0,0,none,[],Nat.zero_le _,rfl,rfl,rfl,(fun _ h=>by cases h),HBF.out⟩
     case round=>
      obtain ⟨i,nz,cz,Az,lz,hi,rfl,hnz,hz,hf,hb⟩:=hrel
      have HBZ:=Ω hb
      have HNZ:=Ω hnz
      have HZ:=Ω hz
      have HF:=Ω hf
      have hcw:=hb.gr.other HC3.out HCS.out HCP.out
      have c2:=hcw.cell 2
      have HNZ3:Hid (nz≤3):=Ω (by
       have h:=congrArg List.length hz
       rw [List.length_map,←hnz,List.length_take] at h
       have:=HGD.out.few
       omega)
      have HNZI:Hid (nz=i):=Ω (by
       have h:=congrArg List.length hz
       rw [List.length_map,←hnz,List.length_take] at h
       omega)
      clear hb hnz hz hf hcw
      by_cases hlt:i<ly.length
      ·have hltn:i<ny:=by rw [HNY.out];exact hlt
       have d1:decide ((i:Int)<(ny:Int))=true:=dT (by omega)
       have HLT:=Ω hlt
       go_upto_block 5 with fail
       refine rb_any _ (by kernel_rfl) wr HLT.out HBZ.out HNZ.out HNZ3.out HC3.out HCS.out HCP.out HHH.out HAA.out HNY.out HNX.out HGD.out _ (by intro p a t v w' h;cases t <;> exact h) _ _ _ _ _ _ _ _ _ _ _ _ _ _ _ _ _ _ _ _ _ _ _ _ _ _ _ _ _ _ _ _ _ _ _ _ _ _ _ _ _ _ _ _ _ _ _ _ _ _ _ _ _ _ _ _ _ _ _ _ _ _ _ _ _ _ _ _ _ _ _ _ _ _ _ _ _ _ _ _ _ _ _ _ _ _ _ _ _ _ _ _ _ _ _ _ _ _ _ _ _ _ _ _ _ _ _ _ _ _ _ _ _ _ _ _ ?_
       intros
       rename_i w' hpost
       obtain ⟨Ap,cp,m,body,hm,hgd,hlen,hb2⟩:=hpost
       have HB2:=Ω hb2
       have HM:=Ω (And.intro hm (And.intro hgd hlen))
       clear hm hgd hlen hb2
       go_wp2
       go_roundw
       case rel=>
        refine ⟨i+1,nz+1,cp,Ap,_,HLT.out,by go_num,by rw [List.length_append,List.length_singleton,←HNZ.out],?_,?_,HB2.out⟩
        ·rw [List.map_append,HZ.out,List.take_succ_eq_append_getElem HLT.out];rfl
        ·intro f hf
         rcases List.mem_append.1 hf with hf|hf
         ·exact HF.out f hf
         ·obtain rfl:=List.mem_singleton.1 hf
          exact ⟨m,HM.out.1,rfl,HM.out.2.1,HM.out.2.2⟩
       case measure=>have:=HLT.out;simp [intOf];omega
      ·have hltn:¬i<ny:=by rw [HNY.out];exact hlt
       have d1:decide ((i:Int)<(ny:Int))=false:=dF (by omega)
       have HII:Hid (i=ly.length):=Ω (by omega)
       have p0:=HBZ.out.blk.cell 0
       have p1:=HBZ.out.blk.cell 1
       have hrw:=HBZ.out.gr.other HR3.out (by have:=HORD.out;omega) (by have:=HORD.out;omega)
       have r0:=hrw.cell 0
       have r1:=hrw.cell 1
       have g0:=hrw.frozen 0
       have g1:=hrw.frozen 1
       have HRW:=Ω hrw
       clear hrw
       go_wp2
       refine bodyPost_ret (v:=.agg #[.slice Ax nx cx,.slice Az nz cz]) (results_cell_row (p:=4) (ty:=27) (by kernel_rfl) _ _ rb 27 _ (0,0) _ rfl ((HRW.out.set_ 0 _).set_ 1 _) Tryz.underlying27 rfl (by kernel_rfl)) rfl ?_
       have hlz:lz.map (fun f=>(f.name,f.params))=ly:=by rw [HZ.out,HII.out,List.take_length]
       have hgen:=gen_of hk0 hk1 HL0.out HY0.out HPR.out hlz HF.out
       obtain ⟨cssA,hA⟩:=HB.out.own
       obtain ⟨cssZ,hZ⟩:=HBZ.out.own
       have hZlt:=HBZ.out.gr.size
       have hgz:=HBZ.out.gr
       obtain ⟨o1,o2,o3,o4,o5⟩:=HORD.out
       have q1:=HLA.out
       have q2:=HG23.out.size
       have q3:=H12.out
       have hgw:∀(u v:Value),wr.grownBy ((wr.setCell ⟨rb,0,none⟩ u).setCell ⟨rb,1,none⟩ v) (some rb):=fun u v=>(grown_set wr ⟨rb,0,none⟩ u).trans (grown_set _ ⟨rb,1,none⟩ v)
       have hbw:=hgz.below_of HW3.out HW3.out.size (by omega) (by omega)
       have hbf:Below w.heap.size w ((wr.setCell ⟨rb,0,none⟩ (.slice Ax nx cx)).setCell ⟨rb,1,none⟩ (.slice Az nz cz)):=(hbw.setCell (p:=⟨rb,0,none⟩) (by show w.heap.size≤rb;omega) _).setCell (p:=⟨rb,1,none⟩) (by show w.heap.size≤rb;omega) _
       have hka:Keeps (fun b=>W1.heap.size≤b∧b<Z1.heap.size) Z1 ((wr.setCell ⟨rb,0,none⟩ (.slice Ax nx cx)).setCell ⟨rb,1,none⟩ (.slice Az nz cz)):=fun b hb=>
        ((hgw _ _).block b (by omega) (fun e=>by have:=sj e;omega)).trans ((hgz.block b (by omega) (by omega) (by omega)).trans (HKA3.out b hb.1 hb.2))
       have hOA:=hA.keep mono_arr hka (by have:=(hgw (.slice Ax nx cx) (.slice Az nz cz)).size;omega)
       have hOZ:=hZ.grown (mono_func 8) (ok':=okX W2.heap.size ((wr.setCell ⟨rb,0,none⟩ (.slice Ax nx cx)).setCell ⟨rb,1,none⟩ (.slice Az nz cz)) (.slice Az nz cz)) (hgw (.slice Ax nx cx) (.slice Az nz cz)) (fun k e h=>by have h1:=sj h;have h2:=(hZ.row.lt k e).1;omega) (fun b hb=>hb.2.1) (fun b hb h=>by have h1:=sj h;have h2:=hb.1;omega) (fun b hb=>⟨hb.1,ltle hb.2.1 (hgw _ _).size,hb.2.2⟩) (fun k e hk=>hk.2.2 e)
       have hlt:∀k,(.slice Ax nx cx:Value).ownBlock=some k→k<W2.heap.size:=fun k e=>by have:=(hA.row.lt k e).2;omega
       generalize ((wr.setCell ⟨rb,0,none⟩ (.slice Ax nx cx)).setCell ⟨rb,1,none⟩ (.slice Az nz cz))=wf at *
       have hnzl:=HNZ.out
       rw [HNX.out] at hOA hlt
       rw [hnzl] at hOZ ⊢
       rw [show nx=l.length from HNX.out]
       exact ⟨⟨l,lz⟩,Ax,Az,cx,cz,W1.heap.size,W2.heap.size,W3.heap.size,cssA,cssZ,rfl,hgen,hbf,HW1.out.size,q3,q2,hOA,hlt,hOZ⟩
end
end Go.Proofs.YtmignlclfbaifaaGreat
