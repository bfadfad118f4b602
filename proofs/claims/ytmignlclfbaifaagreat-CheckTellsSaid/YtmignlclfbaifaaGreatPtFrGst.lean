/- The generator's statements: (scope).stmts, where the scope is not free: up to four that are made of what there is. Printed by wip/gen_trgst.py. -/
import Derived.Test.YtmignlclfbaifaaGreatPtFrGsf
import Derived.Test.YtmignlclfbaifaaGreatPtFrCall
import Derived.Test.YtmignlclfbaifaaGreatPtFrExpr
namespace Go.Proofs.YtmignlclfbaifaaGreat
open Go.RowKit
def condOf (k:Nat):Code→Option Code
 |.seq a b=>(condOf k a).or (condOf k b)
 |.cond (.tmp s) a b=>if s=k then some (.cond (.tmp s) a b) else (condOf k a).or (condOf k b)
 |.cond _ a b=>(condOf k a).or (condOf k b)
 |.block _ b=>condOf k b
 |.loop b=>condOf k b
 |.rangeFunc _ _ a b=>(condOf k a).or (condOf k b)
 |.scope b=>condOf k b
 |_=>none
def regOf (k:Nat):Code→Option Code
 |.region i ops d=>if i=k then some (.region i ops d) else none
 |.seq a b=>(regOf k a).or (regOf k b)
 |.cond _ a b=>(regOf k a).or (regOf k b)
 |.block _ b=>regOf k b
 |.loop b=>regOf k b
 |.rangeFunc _ _ a b=>(regOf k a).or (regOf k b)
 |.scope b=>regOf k b
 |_=>none
set_option maxRecDepth 100000 in
set_option maxHeartbeats 8000000 in
theorem sw_any (cc:Code) (hc:(Tryz.f26.body.bind (blkOf 2))=some cc) {fr:Bool} {w:World} {sb:Nat} {c:Scp} {Av Aa Af:Option Addr} {nv na nf cv ca cf:Nat} {loop:Bool} {d:Nat} (G:GCtx fr w sb c Av Aa Af nv na nf cv ca cf loop d) {w1:World} (hgw:w.grownBy w1 (some sb)) (hsc:Blk w1 w.heap.size 61 #[.slice Av nv cv,.slice Aa na ca,.slice Af nf cf,.bool fr,.bool loop]) (Y:World) (j:Int) (ba bv bf:Bool)
  (hb:BoxS w1 sb Y (w1.heap.size+1) w1.heap.size 45 #[.int .i64 8,.string ⟨#[]⟩,.slice none 0 0,.slice none 0 0,.slice none 0 0] (d+4) (mE c 4) (.slice none 0 0) []) (hj0:0≤j) (hj14:j<14) (hjd:j<7∨11≤j∨2≤d)
  (Q:Exit→Act→World→Prop) (hQ:∀p (a:Act) t (v:Value) (w':World),Q (Exit.panic p) (a.put t v) w'→Q (Exit.panic p) a w') (aA aE aF aG aH aI aJ aP aQ aR aS aT aU aV aW aX aY aZ bA bB bC bD bE bF bG bH bI bJ bK bL bM bN bO bP bQ bR bS bT bU bV bW bX bY bZ cA cB cC cD cE cF cG cH cI cJ cK cL cM cN cO cP cQ cR cS cT cU cV cW cX cY cZ dA dB dC dD dE dG dH dI dJ dK dL dM dN dO dP dQ dR dS dU dV dW dX dY dZ eA eB eC eD eE eF eG eH eI eJ eK eL eM eN eO eP eQ eR eS eT eU eV eW eX eY eZ fA fB fC fD fE fF fG fH fI fJ fK fL fM fN fO fP fQ fR fS fT fU fV fW fX fY fZ gA gB gC gD gE gF gG gH gI gJ gK gL gM gN gO gP gQ gR gS gT gU gV gW gX gY gZ hA hB hD hE hF hG hH hI hJ hL hM hN hO hP hR hT hU hV hY hZ iA iB iC iD iE iF iG iH iI iJ iK iL iM iN iO iP iQ iR iS iT iU iV iW iX iY iZ:Value)
  (hK:∀(jF kS kT kU kV kW kX kY kZ lA lB lC lD lE lF lG lH lI lJ lK lL lM lN lO lP lQ lR lS lT lU lV lW lX lY lZ mA mB mC mD mF mG mH mI mJ mK mL mM mN mO mP mQ mR mS mT mU mV mW mX mY mZ nA nB nC nD nE nF nG nH nI nJ nK nL nM nN nO nP nQ nR nS nT nU nV nW nX nY nZ oA oB oC oD oE oF oG oH oI oJ oK oL oM oN oO oP oQ oR oS oT oU oV oW oX oY oZ pA pB pC pD pE pF pG pH pI pJ pK pL pM pN pO pP pQ pR pS pT pU pV pW pX pY:Value) (w':World),MidS w1 sb w' w1.heap.size c d loop→Q .normal { tmps:=#[aA,.pointer (some ⟨sb,0,none⟩),.int .i64 (d:Int),.pointer (some ⟨w.heap.size,0,none⟩),aE,aF,aG,aH,aI,aJ,.int .i64 j,.pointer (some ⟨w1.heap.size,0,none⟩),.bool ba,.bool bv,.bool bf,jF,aQ,aR,aS,aT,aU,aV,aW,aX,aY,aZ,bA,bB,bC,bD,bE,bF,bG,bH,bI,bJ,bK,bL,bM,bN,bO,bP,bQ,bR,bS,bT,bU,bV,bW,bX,bY,bZ,cA,cB,cC,cD,cE,cF,cG,cH,cI,kS,kT,kU,kV,kW,kX,kY,kZ,lA,lB,lC,lD,lE,lF,lG,lH,lI,lJ,lK,lL,lM,lN,lO,lP,lQ,lR,lS,lT,lU,lV,lW,lX,lY,lZ,mA,mB,mC,mD,mF,mG,mH,mI,mJ,mK,mL,mM,mN,mO,mP,mQ,mR,mS,mT,mU,mV,mW,mX,mY,mZ,nA,nB,nC,nD,nE,nF,nG,nH,nI,nJ,nK,nL,nM,nN,nO,nP,nQ,nR,nS,nT,nU,nV,nW,nX,nY,nZ,oA,oB,oC,oD,oE,oF,oG,oH,oI,oJ,oK,oL,oM,oN,oO,oP,oQ,oR,oS,oT,oU,oV,oW,oX,oY,oZ,pA,pB,pC,pD,pE,pF,pG,pH,pI,pJ,pK,pL,pM,pN,pO,pP,pQ,pR,pS,pT,pU,pV,pW,pX,pY,hV,hY,hZ,iA,iB,iC,iD,iE,iF,iG,iH,iI,iJ,iK,iL,iM,iN,iO,iP,iQ,iR,iS,iT,iU,iV,iW,iX,iY,iZ],defers:=[] } w') :
  (Code.block 2 cc).wp Tryz.prog Q { tmps:=#[aA,.pointer (some ⟨sb,0,none⟩),.int .i64 (d:Int),.pointer (some ⟨w.heap.size,0,none⟩),aE,aF,aG,aH,aI,aJ,.int .i64 j,.pointer (some ⟨w1.heap.size,0,none⟩),.bool ba,.bool bv,.bool bf,aP,aQ,aR,aS,aT,aU,aV,aW,aX,aY,aZ,bA,bB,bC,bD,bE,bF,bG,bH,bI,bJ,bK,bL,bM,bN,bO,bP,bQ,bR,bS,bT,bU,bV,bW,bX,bY,bZ,cA,cB,cC,cD,cE,cF,cG,cH,cI,cJ,cK,cL,cM,cN,cO,cP,cQ,cR,cS,cT,cU,cV,cW,cX,cY,cZ,dA,dB,dC,dD,dE,dG,dH,dI,dJ,dK,dL,dM,dN,dO,dP,dQ,dR,dS,dU,dV,dW,dX,dY,dZ,eA,eB,eC,eD,eE,eF,eG,eH,eI,eJ,eK,eL,eM,eN,eO,eP,eQ,eR,eS,eT,eU,eV,eW,eX,eY,eZ,fA,fB,fC,fD,fE,fF,fG,fH,fI,fJ,fK,fL,fM,fN,fO,fP,fQ,fR,fS,fT,fU,fV,fW,fX,fY,fZ,gA,gB,gC,gD,gE,gF,gG,gH,gI,gJ,gK,gL,gM,gN,gO,gP,gQ,gR,gS,gT,gU,gV,gW,gX,gY,gZ,hA,hB,hD,hE,hF,hG,hH,hI,hJ,hL,hM,hN,hO,hP,hR,hT,hU,hV,hY,hZ,iA,iB,iC,iD,iE,iF,iG,iH,iI,iJ,iK,iL,iM,iN,iO,iP,iQ,iR,iS,iT,iU,iV,iW,iX,iY,iZ],defers:=[] } Y:=by
 have HKK:=Ω hK
 have HQ:=Ω hQ
 have hwx:w.heap.size<w1.heap.size:=hsc.lt
 have hwn:w.heap.size≠w1.heap.size:=Nat.ne_of_lt hwx
 have hwm:w1.heap.size≠w.heap.size:=Nat.ne_of_gt hwx
 have hcc:Tryz.f26.body.bind (blkOf 2)=some cc:=hc
 simp only [Tryz.f26,blkOf,Option.bind_some,Nat.reduceEqDiff,↓reduceIte,Option.none_or,Option.or_none,Option.some.injEq] at hcc
 subst hcc
 have HBX:=Ω hb
 have HSCB:=Ω hsc
 have HGW:=Ω hgw
 have HG:=Ω G
 have HNE:Hid (sb≠w.heap.size):=Ω (by have:=G.sb;omega)
 have hd:=G.hd
 have hd2:=G.hd2
 have HSB:=Ω G.sb
 have HOK:=Ω G.ok
 have HJD:=Ω hjd
 clear hc hK hQ hb hsc hgw G hjd
 obtain ⟨ab0,ab1,ab2,ab3,ab4⟩:=(HBX.out.sc HSCB.out HNE.out).c5
 obtain ⟨ax0,ax1,ax2,ax3,ax4⟩:=HBX.out.blk.c5
 obtain ⟨az0,az1,az2,az3,az4⟩:=HBX.out.blk.z5
 have alt:w1.heap.size<Y.heap.size:=HBX.out.bs
 rcases (by omega:j<4∨j=4∨j=5∨j=6∨j=7∨j=8∨j=9∨j=10∨j=11∨(11<j)) with h|rfl|rfl|rfl|rfl|rfl|rfl|rfl|rfl|h
 case inl=>
  have d1:decide (j<4)=true:=dT h
  have e4:(j == 4)=false:=beq_eq_false_iff_ne.2 (by omega)
  have e5:(j == 5)=false:=beq_eq_false_iff_ne.2 (by omega)
  have e6:(j == 6)=false:=beq_eq_false_iff_ne.2 (by omega)
  have e7:(j == 7)=false:=beq_eq_false_iff_ne.2 (by omega)
  have e8:(j == 8)=false:=beq_eq_false_iff_ne.2 (by omega)
  have e9:(j == 9)=false:=beq_eq_false_iff_ne.2 (by omega)
  have e10:(j == 10)=false:=beq_eq_false_iff_ne.2 (by omega)
  have e11:(j == 11)=false:=beq_eq_false_iff_ne.2 (by omega)
  cases bv with
  |true=>
   go_upto_if 61 with fail
   refine wp_cond_true (by rfl) ?_
   refine form_set _ (by kernel_rfl) HG.out HGW.out HSCB.out Y HBX.out  _ (by exact fun p a t v w' h=>HQ.out p a t v w' h) _ _ _ _ _ _ _ _ _ _ _ _ _ _ _ _ _ _ _ _ _ _ _ _ _ _ _ _ _ _ _ _ _ _ _ _ _ _ _ _ _ _ _ _ _ _ _ _ _ _ _ _ _ _ _ _ _ _ _ _ _ _ _ _ _ _ _ _ _ _ _ _ _ _ _ _ _ _ _ _ _ _ _ _ _ _ _ _ _ _ _ _ _ _ _ _ _ _ _ _ _ _ _ _ _ _ _ _ _ _ _ _ _ _ _ _ _ _ _ _ _ _ _ _ _ _ _ _ _ _ _ _ _ _ _ _ _ _ _ _ _ _ _ _ _ _ _ _ _ _ _ _ _ _ _ _ _ _ _ _ _ _ _ _ _ _ _ _ _ _ _ _ _ _ _ _ _ _ _ _ _ _ _ _ _ _ _ _ _ _ _ _ _ _ _ _ _ _ _ _ _ _ _ _ _ _ _ _ _ _ _ _ _ _ _ _ _ _ _ _ _ _ ?_
   intros
   rename_i w' hm
   go_wp2
   exact HKK.out _ _ _ _ _ _ _ _ _ _ _ _ _ _ _ _ _ _ _ _ _ _ _ _ _ _ _ _ _ _ _ _ _ _ _ _ _ _ _ _ _ _ _ _ _ _ _ _ _ _ _ _ _ _ _ _ _ _ _ _ _ _ _ _ _ _ _ _ _ _ _ _ _ _ _ _ _ _ _ _ _ _ _ _ _ _ _ _ _ _ _ _ _ _ _ _ _ _ _ _ _ _ _ _ _ _ _ _ _ _ _ _ _ _ _ _ _ _ _ _ _ _ _ _ _ _ _ _ _ _ _ _ _ _ _ _ _ _ hm
  |false=>
   go_wp2
   exact HKK.out _ _ _ _ _ _ _ _ _ _ _ _ _ _ _ _ _ _ _ _ _ _ _ _ _ _ _ _ _ _ _ _ _ _ _ _ _ _ _ _ _ _ _ _ _ _ _ _ _ _ _ _ _ _ _ _ _ _ _ _ _ _ _ _ _ _ _ _ _ _ _ _ _ _ _ _ _ _ _ _ _ _ _ _ _ _ _ _ _ _ _ _ _ _ _ _ _ _ _ _ _ _ _ _ _ _ _ _ _ _ _ _ _ _ _ _ _ _ _ _ _ _ _ _ _ _ _ _ _ _ _ _ _ _ _ _ _ _ (⟨8,⟨#[]⟩,_,_,_,[],[],[],HBX.out,half_one hd (.inr (.inl rfl)),.inl ⟨rfl,rfl,rfl,rfl⟩⟩)
 case inr.inl=>
  cases ba with
  |true=>
   go_upto_if 74 with fail
   refine wp_cond_true (by rfl) ?_
   refine form_store _ (by kernel_rfl) HG.out HGW.out HSCB.out Y HBX.out  _ (by exact fun p a t v w' h=>HQ.out p a t v w' h) _ _ _ _ _ _ _ _ _ _ _ _ _ _ _ _ _ _ _ _ _ _ _ _ _ _ _ _ _ _ _ _ _ _ _ _ _ _ _ _ _ _ _ _ _ _ _ _ _ _ _ _ _ _ _ _ _ _ _ _ _ _ _ _ _ _ _ _ _ _ _ _ _ _ _ _ _ _ _ _ _ _ _ _ _ _ _ _ _ _ _ _ _ _ _ _ _ _ _ _ _ _ _ _ _ _ _ _ _ _ _ _ _ _ _ _ _ _ _ _ _ _ _ _ _ _ _ _ _ _ _ _ _ _ _ _ _ _ _ _ _ _ _ _ _ _ _ _ _ _ _ _ _ _ _ _ _ _ _ _ _ _ _ _ _ _ _ _ _ _ _ _ _ _ _ _ _ _ _ _ _ _ _ _ _ _ _ _ _ _ _ _ _ _ _ _ _ _ _ _ _ _ _ _ _ _ _ _ _ _ _ _ _ _ _ _ _ _ _ _ _ _ ?_
   intros
   rename_i w' hm
   go_wp2
   exact HKK.out _ _ _ _ _ _ _ _ _ _ _ _ _ _ _ _ _ _ _ _ _ _ _ _ _ _ _ _ _ _ _ _ _ _ _ _ _ _ _ _ _ _ _ _ _ _ _ _ _ _ _ _ _ _ _ _ _ _ _ _ _ _ _ _ _ _ _ _ _ _ _ _ _ _ _ _ _ _ _ _ _ _ _ _ _ _ _ _ _ _ _ _ _ _ _ _ _ _ _ _ _ _ _ _ _ _ _ _ _ _ _ _ _ _ _ _ _ _ _ _ _ _ _ _ _ _ _ _ _ _ _ _ _ _ _ _ _ _ hm
  |false=>
   go_wp2
   exact HKK.out _ _ _ _ _ _ _ _ _ _ _ _ _ _ _ _ _ _ _ _ _ _ _ _ _ _ _ _ _ _ _ _ _ _ _ _ _ _ _ _ _ _ _ _ _ _ _ _ _ _ _ _ _ _ _ _ _ _ _ _ _ _ _ _ _ _ _ _ _ _ _ _ _ _ _ _ _ _ _ _ _ _ _ _ _ _ _ _ _ _ _ _ _ _ _ _ _ _ _ _ _ _ _ _ _ _ _ _ _ _ _ _ _ _ _ _ _ _ _ _ _ _ _ _ _ _ _ _ _ _ _ _ _ _ _ _ _ _ (⟨8,⟨#[]⟩,_,_,_,[],[],[],HBX.out,half_one hd (.inr (.inl rfl)),.inl ⟨rfl,rfl,rfl,rfl⟩⟩)
 case inr.inr.inl=>
  cases bf with
  |true=>
   go_upto_if 94 with fail
   refine wp_cond_true (by rfl) ?_
   refine form_call _ (by kernel_rfl) HG.out HGW.out HSCB.out Y HBX.out  _ (by exact fun p a t v w' h=>HQ.out p a t v w' h) _ _ _ _ _ _ _ _ _ _ _ _ _ _ _ _ _ _ _ _ _ _ _ _ _ _ _ _ _ _ _ _ _ _ _ _ _ _ _ _ _ _ _ _ _ _ _ _ _ _ _ _ _ _ _ _ _ _ _ _ _ _ _ _ _ _ _ _ _ _ _ _ _ _ _ _ _ _ _ _ _ _ _ _ _ _ _ _ _ _ _ _ _ _ _ _ _ _ _ _ _ _ _ _ _ _ _ _ _ _ _ _ _ _ _ _ _ _ _ _ _ _ _ _ _ _ _ _ _ _ _ _ _ _ _ _ _ _ _ _ _ _ _ _ _ _ _ _ _ _ _ _ _ _ _ _ _ _ _ _ _ _ _ _ _ _ _ _ _ _ _ _ _ _ _ _ _ _ _ _ _ _ _ _ _ _ _ _ _ _ _ _ _ _ _ _ _ _ _ _ _ _ _ _ _ _ _ _ _ _ _ _ _ _ _ _ _ _ _ _ _ _ ?_
   intros
   rename_i w' hm
   go_wp2
   exact HKK.out _ _ _ _ _ _ _ _ _ _ _ _ _ _ _ _ _ _ _ _ _ _ _ _ _ _ _ _ _ _ _ _ _ _ _ _ _ _ _ _ _ _ _ _ _ _ _ _ _ _ _ _ _ _ _ _ _ _ _ _ _ _ _ _ _ _ _ _ _ _ _ _ _ _ _ _ _ _ _ _ _ _ _ _ _ _ _ _ _ _ _ _ _ _ _ _ _ _ _ _ _ _ _ _ _ _ _ _ _ _ _ _ _ _ _ _ _ _ _ _ _ _ _ _ _ _ _ _ _ _ _ _ _ _ _ _ _ _ hm
  |false=>
   go_wp2
   exact HKK.out _ _ _ _ _ _ _ _ _ _ _ _ _ _ _ _ _ _ _ _ _ _ _ _ _ _ _ _ _ _ _ _ _ _ _ _ _ _ _ _ _ _ _ _ _ _ _ _ _ _ _ _ _ _ _ _ _ _ _ _ _ _ _ _ _ _ _ _ _ _ _ _ _ _ _ _ _ _ _ _ _ _ _ _ _ _ _ _ _ _ _ _ _ _ _ _ _ _ _ _ _ _ _ _ _ _ _ _ _ _ _ _ _ _ _ _ _ _ _ _ _ _ _ _ _ _ _ _ _ _ _ _ _ _ _ _ _ _ (⟨8,⟨#[]⟩,_,_,_,[],[],[],HBX.out,half_one hd (.inr (.inl rfl)),.inl ⟨rfl,rfl,rfl,rfl⟩⟩)
 case inr.inr.inr.inl=>
  go_upto_if 109 with (go_at_call 21;refine (next_any _ sb 3 (by omega) HBX.out.src).mono ?_;rintro e X2 ⟨⟨q3,hq3,rfl⟩,hs1,hg1⟩;have HB2:=Ω (HBX.out.step hg1 hs1);clear hs1 hg1;obtain ⟨cb0,cb1,cb2,cb3,cb4⟩:=(HB2.out.sc HSCB.out HNE.out).c5;obtain ⟨cx0,cx1,cx2,cx3,cx4⟩:=HB2.out.blk.c5;obtain ⟨cz0,cz1,cz2,cz3,cz4⟩:=HB2.out.blk.z5;have clt:w1.heap.size<X2.heap.size:=HB2.out.bs)
  rcases (by omega:q3=0∨q3=1∨q3=2) with rfl|rfl|rfl
  case inr.inr=>
   refine wp_cond_true (by rfl) ?_
   refine form_ret _ (by kernel_rfl) HG.out HGW.out HSCB.out X2 HB2.out  _ (by exact fun p a t v w' h=>HQ.out p a t v w' h) _ _ _ _ _ _ _ _ _ _ _ _ _ _ _ _ _ _ _ _ _ _ _ _ _ _ _ _ _ _ _ _ _ _ _ _ _ _ _ _ _ _ _ _ _ _ _ _ _ _ _ _ _ _ _ _ _ _ _ _ _ _ _ _ _ _ _ _ _ _ _ _ _ _ _ _ _ _ _ _ _ _ _ _ _ _ _ _ _ _ _ _ _ _ _ _ _ _ _ _ _ _ _ _ _ _ _ _ _ _ _ _ _ _ _ _ _ _ _ _ _ _ _ _ _ _ _ _ _ _ _ _ _ _ _ _ _ _ _ _ _ _ _ _ _ _ _ _ _ _ _ _ _ _ _ _ _ _ _ _ _ _ _ _ _ _ _ _ _ _ _ _ _ _ _ _ _ _ _ _ _ _ _ _ _ _ _ _ _ _ _ _ _ _ _ _ _ _ _ _ _ _ _ _ _ _ _ _ _ _ _ _ _ _ _ _ _ _ _ _ _ _ ?_
   intros
   rename_i w' hm
   go_wp2
   exact HKK.out _ _ _ _ _ _ _ _ _ _ _ _ _ _ _ _ _ _ _ _ _ _ _ _ _ _ _ _ _ _ _ _ _ _ _ _ _ _ _ _ _ _ _ _ _ _ _ _ _ _ _ _ _ _ _ _ _ _ _ _ _ _ _ _ _ _ _ _ _ _ _ _ _ _ _ _ _ _ _ _ _ _ _ _ _ _ _ _ _ _ _ _ _ _ _ _ _ _ _ _ _ _ _ _ _ _ _ _ _ _ _ _ _ _ _ _ _ _ _ _ _ _ _ _ _ _ _ _ _ _ _ _ _ _ _ _ _ _ hm
  case inl=>
   clear ab0 ab1 ab2 ab3 ab4 ax0 ax1 ax2 ax3 ax4 az0 az1 az2 az3 az4 alt
   go_wp2
   exact HKK.out _ _ _ _ _ _ _ _ _ _ _ _ _ _ _ _ _ _ _ _ _ _ _ _ _ _ _ _ _ _ _ _ _ _ _ _ _ _ _ _ _ _ _ _ _ _ _ _ _ _ _ _ _ _ _ _ _ _ _ _ _ _ _ _ _ _ _ _ _ _ _ _ _ _ _ _ _ _ _ _ _ _ _ _ _ _ _ _ _ _ _ _ _ _ _ _ _ _ _ _ _ _ _ _ _ _ _ _ _ _ _ _ _ _ _ _ _ _ _ _ _ _ _ _ _ _ _ _ _ _ _ _ _ _ _ _ _ _ (⟨8,⟨#[]⟩,_,_,_,[],[],[],HB2.out,half_one hd (.inr (.inl rfl)),.inl ⟨rfl,rfl,rfl,rfl⟩⟩)
  case inr.inl=>
   clear ab0 ab1 ab2 ab3 ab4 ax0 ax1 ax2 ax3 ax4 az0 az1 az2 az3 az4 alt
   go_wp2
   exact HKK.out _ _ _ _ _ _ _ _ _ _ _ _ _ _ _ _ _ _ _ _ _ _ _ _ _ _ _ _ _ _ _ _ _ _ _ _ _ _ _ _ _ _ _ _ _ _ _ _ _ _ _ _ _ _ _ _ _ _ _ _ _ _ _ _ _ _ _ _ _ _ _ _ _ _ _ _ _ _ _ _ _ _ _ _ _ _ _ _ _ _ _ _ _ _ _ _ _ _ _ _ _ _ _ _ _ _ _ _ _ _ _ _ _ _ _ _ _ _ _ _ _ _ _ _ _ _ _ _ _ _ _ _ _ _ _ _ _ _ (⟨8,⟨#[]⟩,_,_,_,[],[],[],HB2.out,half_one hd (.inr (.inl rfl)),.inl ⟨rfl,rfl,rfl,rfl⟩⟩)
 case inr.inr.inr.inr.inl=>
  have h2d:2≤d:=by have h:=HJD.out;omega
  have H2:=Ω h2d
  clear h2d
  go_upto_if 123 with fail
  refine wp_cond_true (by rfl) ?_
  refine form_if _ (by kernel_rfl) HG.out HGW.out HSCB.out Y HBX.out H2.out _ (by exact fun p a t v w' h=>HQ.out p a t v w' h) _ _ _ _ _ _ _ _ _ _ _ _ _ _ _ _ _ _ _ _ _ _ _ _ _ _ _ _ _ _ _ _ _ _ _ _ _ _ _ _ _ _ _ _ _ _ _ _ _ _ _ _ _ _ _ _ _ _ _ _ _ _ _ _ _ _ _ _ _ _ _ _ _ _ _ _ _ _ _ _ _ _ _ _ _ _ _ _ _ _ _ _ _ _ _ _ _ _ _ _ _ _ _ _ _ _ _ _ _ _ _ _ _ _ _ _ _ _ _ _ _ _ _ _ _ _ _ _ _ _ _ _ _ _ _ _ _ _ _ _ _ _ _ _ _ _ _ _ _ _ _ _ _ _ _ _ _ _ _ _ _ _ _ _ _ _ _ _ _ _ _ _ _ _ _ _ _ _ _ _ _ _ _ _ _ _ _ _ _ _ _ _ _ _ _ _ _ _ _ _ _ _ _ _ _ _ _ _ _ _ _ _ _ _ _ _ _ _ _ _ _ _ ?_
  intros
  rename_i w' hm
  go_wp2
  exact HKK.out _ _ _ _ _ _ _ _ _ _ _ _ _ _ _ _ _ _ _ _ _ _ _ _ _ _ _ _ _ _ _ _ _ _ _ _ _ _ _ _ _ _ _ _ _ _ _ _ _ _ _ _ _ _ _ _ _ _ _ _ _ _ _ _ _ _ _ _ _ _ _ _ _ _ _ _ _ _ _ _ _ _ _ _ _ _ _ _ _ _ _ _ _ _ _ _ _ _ _ _ _ _ _ _ _ _ _ _ _ _ _ _ _ _ _ _ _ _ _ _ _ _ _ _ _ _ _ _ _ _ _ _ _ _ _ _ _ _ hm
 case inr.inr.inr.inr.inr.inl=>
  have h2d:2≤d:=by have h:=HJD.out;omega
  have H2:=Ω h2d
  clear h2d
  go_upto_if 123 with fail
  refine wp_cond_true (by rfl) ?_
  refine form_if _ (by kernel_rfl) HG.out HGW.out HSCB.out Y HBX.out H2.out _ (by exact fun p a t v w' h=>HQ.out p a t v w' h) _ _ _ _ _ _ _ _ _ _ _ _ _ _ _ _ _ _ _ _ _ _ _ _ _ _ _ _ _ _ _ _ _ _ _ _ _ _ _ _ _ _ _ _ _ _ _ _ _ _ _ _ _ _ _ _ _ _ _ _ _ _ _ _ _ _ _ _ _ _ _ _ _ _ _ _ _ _ _ _ _ _ _ _ _ _ _ _ _ _ _ _ _ _ _ _ _ _ _ _ _ _ _ _ _ _ _ _ _ _ _ _ _ _ _ _ _ _ _ _ _ _ _ _ _ _ _ _ _ _ _ _ _ _ _ _ _ _ _ _ _ _ _ _ _ _ _ _ _ _ _ _ _ _ _ _ _ _ _ _ _ _ _ _ _ _ _ _ _ _ _ _ _ _ _ _ _ _ _ _ _ _ _ _ _ _ _ _ _ _ _ _ _ _ _ _ _ _ _ _ _ _ _ _ _ _ _ _ _ _ _ _ _ _ _ _ _ _ _ _ _ _ ?_
  intros
  rename_i w' hm
  go_wp2
  exact HKK.out _ _ _ _ _ _ _ _ _ _ _ _ _ _ _ _ _ _ _ _ _ _ _ _ _ _ _ _ _ _ _ _ _ _ _ _ _ _ _ _ _ _ _ _ _ _ _ _ _ _ _ _ _ _ _ _ _ _ _ _ _ _ _ _ _ _ _ _ _ _ _ _ _ _ _ _ _ _ _ _ _ _ _ _ _ _ _ _ _ _ _ _ _ _ _ _ _ _ _ _ _ _ _ _ _ _ _ _ _ _ _ _ _ _ _ _ _ _ _ _ _ _ _ _ _ _ _ _ _ _ _ _ _ _ _ _ _ _ hm
 case inr.inr.inr.inr.inr.inr.inl=>
  have h2d:2≤d:=by have h:=HJD.out;omega
  have H2:=Ω h2d
  clear h2d
  go_upto_if 151 with fail
  refine wp_cond_true (by rfl) ?_
  refine form_while _ (by kernel_rfl) HG.out HGW.out HSCB.out Y HBX.out H2.out _ (by exact fun p a t v w' h=>HQ.out p a t v w' h) _ _ _ _ _ _ _ _ _ _ _ _ _ _ _ _ _ _ _ _ _ _ _ _ _ _ _ _ _ _ _ _ _ _ _ _ _ _ _ _ _ _ _ _ _ _ _ _ _ _ _ _ _ _ _ _ _ _ _ _ _ _ _ _ _ _ _ _ _ _ _ _ _ _ _ _ _ _ _ _ _ _ _ _ _ _ _ _ _ _ _ _ _ _ _ _ _ _ _ _ _ _ _ _ _ _ _ _ _ _ _ _ _ _ _ _ _ _ _ _ _ _ _ _ _ _ _ _ _ _ _ _ _ _ _ _ _ _ _ _ _ _ _ _ _ _ _ _ _ _ _ _ _ _ _ _ _ _ _ _ _ _ _ _ _ _ _ _ _ _ _ _ _ _ _ _ _ _ _ _ _ _ _ _ _ _ _ _ _ _ _ _ _ _ _ _ _ _ _ _ _ _ _ _ _ _ _ _ _ _ _ _ _ _ _ _ _ _ _ _ _ _ ?_
  intros
  rename_i w' hm
  go_wp2
  exact HKK.out _ _ _ _ _ _ _ _ _ _ _ _ _ _ _ _ _ _ _ _ _ _ _ _ _ _ _ _ _ _ _ _ _ _ _ _ _ _ _ _ _ _ _ _ _ _ _ _ _ _ _ _ _ _ _ _ _ _ _ _ _ _ _ _ _ _ _ _ _ _ _ _ _ _ _ _ _ _ _ _ _ _ _ _ _ _ _ _ _ _ _ _ _ _ _ _ _ _ _ _ _ _ _ _ _ _ _ _ _ _ _ _ _ _ _ _ _ _ _ _ _ _ _ _ _ _ _ _ _ _ _ _ _ _ _ _ _ _ hm
 case inr.inr.inr.inr.inr.inr.inr.inl=>
  have h2d:2≤d:=by have h:=HJD.out;omega
  have H2:=Ω h2d
  clear h2d
  go_upto_if 151 with fail
  refine wp_cond_true (by rfl) ?_
  refine form_while _ (by kernel_rfl) HG.out HGW.out HSCB.out Y HBX.out H2.out _ (by exact fun p a t v w' h=>HQ.out p a t v w' h) _ _ _ _ _ _ _ _ _ _ _ _ _ _ _ _ _ _ _ _ _ _ _ _ _ _ _ _ _ _ _ _ _ _ _ _ _ _ _ _ _ _ _ _ _ _ _ _ _ _ _ _ _ _ _ _ _ _ _ _ _ _ _ _ _ _ _ _ _ _ _ _ _ _ _ _ _ _ _ _ _ _ _ _ _ _ _ _ _ _ _ _ _ _ _ _ _ _ _ _ _ _ _ _ _ _ _ _ _ _ _ _ _ _ _ _ _ _ _ _ _ _ _ _ _ _ _ _ _ _ _ _ _ _ _ _ _ _ _ _ _ _ _ _ _ _ _ _ _ _ _ _ _ _ _ _ _ _ _ _ _ _ _ _ _ _ _ _ _ _ _ _ _ _ _ _ _ _ _ _ _ _ _ _ _ _ _ _ _ _ _ _ _ _ _ _ _ _ _ _ _ _ _ _ _ _ _ _ _ _ _ _ _ _ _ _ _ _ _ _ _ _ ?_
  intros
  rename_i w' hm
  go_wp2
  exact HKK.out _ _ _ _ _ _ _ _ _ _ _ _ _ _ _ _ _ _ _ _ _ _ _ _ _ _ _ _ _ _ _ _ _ _ _ _ _ _ _ _ _ _ _ _ _ _ _ _ _ _ _ _ _ _ _ _ _ _ _ _ _ _ _ _ _ _ _ _ _ _ _ _ _ _ _ _ _ _ _ _ _ _ _ _ _ _ _ _ _ _ _ _ _ _ _ _ _ _ _ _ _ _ _ _ _ _ _ _ _ _ _ _ _ _ _ _ _ _ _ _ _ _ _ _ _ _ _ _ _ _ _ _ _ _ _ _ _ _ hm
 case inr.inr.inr.inr.inr.inr.inr.inr.inl=>
  cases loop with
  |true=>
   go_upto_if 175 with (go_at_call 21;refine (next_any _ sb 2 (by omega) HBX.out.src).mono ?_;rintro e X2 ⟨⟨q3,hq3,rfl⟩,hs1,hg1⟩;have HB2:=Ω (HBX.out.step hg1 hs1);clear hs1 hg1;obtain ⟨cb0,cb1,cb2,cb3,cb4⟩:=(HB2.out.sc HSCB.out HNE.out).c5;obtain ⟨cx0,cx1,cx2,cx3,cx4⟩:=HB2.out.blk.c5;obtain ⟨cz0,cz1,cz2,cz3,cz4⟩:=HB2.out.blk.z5;have clt:w1.heap.size<X2.heap.size:=HB2.out.bs)
   rcases (by omega:q3=0∨q3=1) with rfl|rfl
   case inr=>
    refine wp_cond_true (by rfl) ?_
    refine form_break _ (by kernel_rfl) HG.out HGW.out HSCB.out X2 HB2.out  _ (by exact fun p a t v w' h=>HQ.out p a t v w' h) _ _ _ _ _ _ _ _ _ _ _ _ _ _ _ _ _ _ _ _ _ _ _ _ _ _ _ _ _ _ _ _ _ _ _ _ _ _ _ _ _ _ _ _ _ _ _ _ _ _ _ _ _ _ _ _ _ _ _ _ _ _ _ _ _ _ _ _ _ _ _ _ _ _ _ _ _ _ _ _ _ _ _ _ _ _ _ _ _ _ _ _ _ _ _ _ _ _ _ _ _ _ _ _ _ _ _ _ _ _ _ _ _ _ _ _ _ _ _ _ _ _ _ _ _ _ _ _ _ _ _ _ _ _ _ _ _ _ _ _ _ _ _ _ _ _ _ _ _ _ _ _ _ _ _ _ _ _ _ _ _ _ _ _ _ _ _ _ _ _ _ _ _ _ _ _ _ _ _ _ _ _ _ _ _ _ _ _ _ _ _ _ _ _ _ _ _ _ _ _ _ _ _ _ _ _ _ _ _ _ _ _ _ _ _ _ _ _ _ _ _ _ ?_
    intros
    rename_i w' hm
    go_wp2
    exact HKK.out _ _ _ _ _ _ _ _ _ _ _ _ _ _ _ _ _ _ _ _ _ _ _ _ _ _ _ _ _ _ _ _ _ _ _ _ _ _ _ _ _ _ _ _ _ _ _ _ _ _ _ _ _ _ _ _ _ _ _ _ _ _ _ _ _ _ _ _ _ _ _ _ _ _ _ _ _ _ _ _ _ _ _ _ _ _ _ _ _ _ _ _ _ _ _ _ _ _ _ _ _ _ _ _ _ _ _ _ _ _ _ _ _ _ _ _ _ _ _ _ _ _ _ _ _ _ _ _ _ _ _ _ _ _ _ _ _ _ hm
   case inl=>
    clear ab0 ab1 ab2 ab3 ab4 ax0 ax1 ax2 ax3 ax4 az0 az1 az2 az3 az4 alt
    go_wp2
    exact HKK.out _ _ _ _ _ _ _ _ _ _ _ _ _ _ _ _ _ _ _ _ _ _ _ _ _ _ _ _ _ _ _ _ _ _ _ _ _ _ _ _ _ _ _ _ _ _ _ _ _ _ _ _ _ _ _ _ _ _ _ _ _ _ _ _ _ _ _ _ _ _ _ _ _ _ _ _ _ _ _ _ _ _ _ _ _ _ _ _ _ _ _ _ _ _ _ _ _ _ _ _ _ _ _ _ _ _ _ _ _ _ _ _ _ _ _ _ _ _ _ _ _ _ _ _ _ _ _ _ _ _ _ _ _ _ _ _ _ _ (⟨8,⟨#[]⟩,_,_,_,[],[],[],HB2.out,half_one hd (.inr (.inl rfl)),.inl ⟨rfl,rfl,rfl,rfl⟩⟩)
  |false=>
   cases fr with
   |true=>
    go_upto_if 175 with (go_at_call 21;refine (next_any _ sb 2 (by omega) HBX.out.src).mono ?_;rintro e X2 ⟨⟨q3,hq3,rfl⟩,hs1,hg1⟩;have HB2:=Ω (HBX.out.step hg1 hs1);clear hs1 hg1;obtain ⟨cb0,cb1,cb2,cb3,cb4⟩:=(HB2.out.sc HSCB.out HNE.out).c5;obtain ⟨cx0,cx1,cx2,cx3,cx4⟩:=HB2.out.blk.c5;obtain ⟨cz0,cz1,cz2,cz3,cz4⟩:=HB2.out.blk.z5;have clt:w1.heap.size<X2.heap.size:=HB2.out.bs)
    rcases (by omega:q3=0∨q3=1) with rfl|rfl
    case inr=>
     refine wp_cond_true (by rfl) ?_
     refine form_break _ (by kernel_rfl) HG.out HGW.out HSCB.out X2 HB2.out  _ (by exact fun p a t v w' h=>HQ.out p a t v w' h) _ _ _ _ _ _ _ _ _ _ _ _ _ _ _ _ _ _ _ _ _ _ _ _ _ _ _ _ _ _ _ _ _ _ _ _ _ _ _ _ _ _ _ _ _ _ _ _ _ _ _ _ _ _ _ _ _ _ _ _ _ _ _ _ _ _ _ _ _ _ _ _ _ _ _ _ _ _ _ _ _ _ _ _ _ _ _ _ _ _ _ _ _ _ _ _ _ _ _ _ _ _ _ _ _ _ _ _ _ _ _ _ _ _ _ _ _ _ _ _ _ _ _ _ _ _ _ _ _ _ _ _ _ _ _ _ _ _ _ _ _ _ _ _ _ _ _ _ _ _ _ _ _ _ _ _ _ _ _ _ _ _ _ _ _ _ _ _ _ _ _ _ _ _ _ _ _ _ _ _ _ _ _ _ _ _ _ _ _ _ _ _ _ _ _ _ _ _ _ _ _ _ _ _ _ _ _ _ _ _ _ _ _ _ _ _ _ _ _ _ _ _ ?_
     intros
     rename_i w' hm
     go_wp2
     exact HKK.out _ _ _ _ _ _ _ _ _ _ _ _ _ _ _ _ _ _ _ _ _ _ _ _ _ _ _ _ _ _ _ _ _ _ _ _ _ _ _ _ _ _ _ _ _ _ _ _ _ _ _ _ _ _ _ _ _ _ _ _ _ _ _ _ _ _ _ _ _ _ _ _ _ _ _ _ _ _ _ _ _ _ _ _ _ _ _ _ _ _ _ _ _ _ _ _ _ _ _ _ _ _ _ _ _ _ _ _ _ _ _ _ _ _ _ _ _ _ _ _ _ _ _ _ _ _ _ _ _ _ _ _ _ _ _ _ _ _ hm
    case inl=>
     clear ab0 ab1 ab2 ab3 ab4 ax0 ax1 ax2 ax3 ax4 az0 az1 az2 az3 az4 alt
     go_wp2
     exact HKK.out _ _ _ _ _ _ _ _ _ _ _ _ _ _ _ _ _ _ _ _ _ _ _ _ _ _ _ _ _ _ _ _ _ _ _ _ _ _ _ _ _ _ _ _ _ _ _ _ _ _ _ _ _ _ _ _ _ _ _ _ _ _ _ _ _ _ _ _ _ _ _ _ _ _ _ _ _ _ _ _ _ _ _ _ _ _ _ _ _ _ _ _ _ _ _ _ _ _ _ _ _ _ _ _ _ _ _ _ _ _ _ _ _ _ _ _ _ _ _ _ _ _ _ _ _ _ _ _ _ _ _ _ _ _ _ _ _ _ (⟨8,⟨#[]⟩,_,_,_,[],[],[],HB2.out,half_one hd (.inr (.inl rfl)),.inl ⟨rfl,rfl,rfl,rfl⟩⟩)
   |false=>
    go_wp2
    exact HKK.out _ _ _ _ _ _ _ _ _ _ _ _ _ _ _ _ _ _ _ _ _ _ _ _ _ _ _ _ _ _ _ _ _ _ _ _ _ _ _ _ _ _ _ _ _ _ _ _ _ _ _ _ _ _ _ _ _ _ _ _ _ _ _ _ _ _ _ _ _ _ _ _ _ _ _ _ _ _ _ _ _ _ _ _ _ _ _ _ _ _ _ _ _ _ _ _ _ _ _ _ _ _ _ _ _ _ _ _ _ _ _ _ _ _ _ _ _ _ _ _ _ _ _ _ _ _ _ _ _ _ _ _ _ _ _ _ _ _ (⟨8,⟨#[]⟩,_,_,_,[],[],[],HBX.out,half_one hd (.inr (.inl rfl)),.inl ⟨rfl,rfl,rfl,rfl⟩⟩)
 case inr.inr.inr.inr.inr.inr.inr.inr.inr=>
  have d1:decide (j<4)=false:=dF (by omega)
  have e4:(j == 4)=false:=beq_eq_false_iff_ne.2 (by omega)
  have e5:(j == 5)=false:=beq_eq_false_iff_ne.2 (by omega)
  have e6:(j == 6)=false:=beq_eq_false_iff_ne.2 (by omega)
  have e7:(j == 7)=false:=beq_eq_false_iff_ne.2 (by omega)
  have e8:(j == 8)=false:=beq_eq_false_iff_ne.2 (by omega)
  have e9:(j == 9)=false:=beq_eq_false_iff_ne.2 (by omega)
  have e10:(j == 10)=false:=beq_eq_false_iff_ne.2 (by omega)
  have e11:(j == 11)=false:=beq_eq_false_iff_ne.2 (by omega)
  go_wp2
  exact HKK.out _ _ _ _ _ _ _ _ _ _ _ _ _ _ _ _ _ _ _ _ _ _ _ _ _ _ _ _ _ _ _ _ _ _ _ _ _ _ _ _ _ _ _ _ _ _ _ _ _ _ _ _ _ _ _ _ _ _ _ _ _ _ _ _ _ _ _ _ _ _ _ _ _ _ _ _ _ _ _ _ _ _ _ _ _ _ _ _ _ _ _ _ _ _ _ _ _ _ _ _ _ _ _ _ _ _ _ _ _ _ _ _ _ _ _ _ _ _ _ _ _ _ _ _ _ _ _ _ _ _ _ _ _ _ _ _ _ _ (⟨8,⟨#[]⟩,_,_,_,[],[],[],HBX.out,half_one hd (.inr (.inl rfl)),.inl ⟨rfl,rfl,rfl,rfl⟩⟩)
set_option maxRecDepth 100000 in
set_option maxHeartbeats 8000000 in
theorem k7_any (cc:Code) (hc:(Tryz.f26.body.bind (regOf 7))=some cc) (Y:World) (d k1:Nat) (hd2:d≤1000) (hk:k1<14)
  (Q:Exit→Act→World→Prop) (aA aB aD aE aF aG aH aI aJ aL aM aN aO aP aQ aR aS aT aU aV aW aX aY aZ bA bB bC bD bE bF bG bH bI bJ bK bL bM bN bO bP bQ bR bS bT bU bV bW bX bY bZ cA cB cC cD cE cF cG cH cI cJ cK cL cM cN cO cP cQ cR cS cT cU cV cW cX cY cZ dA dB dC dD dE dG dH dI dJ dK dL dM dN dO dP dQ dR dS dU dV dW dX dY dZ eA eB eC eD eE eF eG eH eI eJ eK eL eM eN eO eP eQ eR eS eT eU eV eW eX eY eZ fA fB fC fD fE fF fG fH fI fJ fK fL fM fN fO fP fQ fR fS fT fU fV fW fX fY fZ gA gB gC gD gE gF gG gH gI gJ gK gL gM gN gO gP gQ gR gS gT gU gV gW gX gY gZ hA hB hD hE hF hG hH hI hJ hL hM hN hO hP hR hT hU hV hY hZ iA iB iC iD iE iF iG iH iI iJ iK iL iM iN iO iP iQ iR iS iT iU iV iW iX iY iZ:Value) (hK:∀(jJ jK jL jM jN jO jP jQ jR:Value),Q .normal { tmps:=#[aA,aB,.int .i64 (d:Int),aD,aE,aF,aG,aH,aI,aJ,.int .i64 (k1:Int),aL,aM,aN,aO,aP,aQ,aR,aS,aT,aU,aV,aW,aX,aY,aZ,jJ,jK,jL,jM,jN,jO,jP,jQ,jR,.bool (decide (d<2) && decide (7≤k1) && decide (k1<11)),bK,bL,bM,bN,bO,bP,bQ,bR,bS,bT,bU,bV,bW,bX,bY,bZ,cA,cB,cC,cD,cE,cF,cG,cH,cI,cJ,cK,cL,cM,cN,cO,cP,cQ,cR,cS,cT,cU,cV,cW,cX,cY,cZ,dA,dB,dC,dD,dE,dG,dH,dI,dJ,dK,dL,dM,dN,dO,dP,dQ,dR,dS,dU,dV,dW,dX,dY,dZ,eA,eB,eC,eD,eE,eF,eG,eH,eI,eJ,eK,eL,eM,eN,eO,eP,eQ,eR,eS,eT,eU,eV,eW,eX,eY,eZ,fA,fB,fC,fD,fE,fF,fG,fH,fI,fJ,fK,fL,fM,fN,fO,fP,fQ,fR,fS,fT,fU,fV,fW,fX,fY,fZ,gA,gB,gC,gD,gE,gF,gG,gH,gI,gJ,gK,gL,gM,gN,gO,gP,gQ,gR,gS,gT,gU,gV,gW,gX,gY,gZ,hA,hB,hD,hE,hF,hG,hH,hI,hJ,hL,hM,hN,hO,hP,hR,hT,hU,hV,hY,hZ,iA,iB,iC,iD,iE,iF,iG,iH,iI,iJ,iK,iL,iM,iN,iO,iP,iQ,iR,iS,iT,iU,iV,iW,iX,iY,iZ],defers:=[] } Y):cc.wp Tryz.prog Q { tmps:=#[aA,aB,.int .i64 (d:Int),aD,aE,aF,aG,aH,aI,aJ,.int .i64 (k1:Int),aL,aM,aN,aO,aP,aQ,aR,aS,aT,aU,aV,aW,aX,aY,aZ,bA,bB,bC,bD,bE,bF,bG,bH,bI,bJ,bK,bL,bM,bN,bO,bP,bQ,bR,bS,bT,bU,bV,bW,bX,bY,bZ,cA,cB,cC,cD,cE,cF,cG,cH,cI,cJ,cK,cL,cM,cN,cO,cP,cQ,cR,cS,cT,cU,cV,cW,cX,cY,cZ,dA,dB,dC,dD,dE,dG,dH,dI,dJ,dK,dL,dM,dN,dO,dP,dQ,dR,dS,dU,dV,dW,dX,dY,dZ,eA,eB,eC,eD,eE,eF,eG,eH,eI,eJ,eK,eL,eM,eN,eO,eP,eQ,eR,eS,eT,eU,eV,eW,eX,eY,eZ,fA,fB,fC,fD,fE,fF,fG,fH,fI,fJ,fK,fL,fM,fN,fO,fP,fQ,fR,fS,fT,fU,fV,fW,fX,fY,fZ,gA,gB,gC,gD,gE,gF,gG,gH,gI,gJ,gK,gL,gM,gN,gO,gP,gQ,gR,gS,gT,gU,gV,gW,gX,gY,gZ,hA,hB,hD,hE,hF,hG,hH,hI,hJ,hL,hM,hN,hO,hP,hR,hT,hU,hV,hY,hZ,iA,iB,iC,iD,iE,iF,iG,iH,iI,iJ,iK,iL,iM,iN,iO,iP,iQ,iR,iS,iT,iU,iV,iW,iX,iY,iZ],defers:=[] } Y:=by
 have HKK:=Ω hK
 have hcc:Tryz.f26.body.bind (regOf 7)=some cc:=hc
 simp only [Tryz.f26,regOf,Nat.reduceEqDiff,Option.bind_some,↓reduceIte,Option.none_or,Option.or_none,Option.some.injEq] at hcc
 subst hcc
 clear hc hK
 by_cases hm3:d<2
 ·have d1:decide ((d:Int)<2)=true:=dT (by omega)
  by_cases h7:7≤k1
  ·have d2:decide ((k1:Int)≥7)=true:=dT (by omega)
   have d3:decide (7≤(k1:Int))=true:=dT (by omega)
   by_cases h11:k1<11
   ·have d4:decide ((k1:Int)<11)=true:=dT (by omega)
    have hq:=HKK.out
    rw [dT hm3,dT h7,dT h11] at hq
    have HQQ:=Ω hq
    clear hq HKK
    go_wp2
    exact HQQ.out _ _ _ _ _ _ _ _ _
   ·have d4:decide ((k1:Int)<11)=false:=dF (by omega)
    have hq:=HKK.out
    rw [dF h11,Bool.and_false] at hq
    have HQQ:=Ω hq
    clear hq HKK
    go_wp2
    exact HQQ.out _ _ _ _ _ _ _ _ _
  ·have d2:decide ((k1:Int)≥7)=false:=dF (by omega)
   have d3:decide (7≤(k1:Int))=false:=dF (by omega)
   have hq:=HKK.out
   rw [dF h7,Bool.and_false,Bool.false_and] at hq
   have HQQ:=Ω hq
   clear hq HKK
   go_wp2
   exact HQQ.out _ _ _ _ _ _ _ _ _
 ·have d1:decide ((d:Int)<2)=false:=dF (by omega)
  have hq:=HKK.out
  rw [dF hm3,Bool.false_and,Bool.false_and] at hq
  have HQQ:=Ω hq
  clear hq HKK
  go_wp2
  exact HQQ.out _ _ _ _ _ _ _ _ _
set_option maxRecDepth 100000 in
set_option maxHeartbeats 8000000 in
theorem kc_any (cc:Code) (hc:(Tryz.f26.body.bind (condOf 35))=some cc) (Y:World) (d k1:Nat) (hk:k1<14)
  (Q:Exit→Act→World→Prop) (aA aB aC aD aE aF aG aH aI aJ aL aM aN aO aP aQ aR aS aT aU aV aW aX aY aZ bA bB bC bD bE bF bG bH bI bK bL bM bN bO bP bQ bR bS bT bU bV bW bX bY bZ cA cB cC cD cE cF cG cH cI cJ cK cL cM cN cO cP cQ cR cS cT cU cV cW cX cY cZ dA dB dC dD dE dG dH dI dJ dK dL dM dN dO dP dQ dR dS dU dV dW dX dY dZ eA eB eC eD eE eF eG eH eI eJ eK eL eM eN eO eP eQ eR eS eT eU eV eW eX eY eZ fA fB fC fD fE fF fG fH fI fJ fK fL fM fN fO fP fQ fR fS fT fU fV fW fX fY fZ gA gB gC gD gE gF gG gH gI gJ gK gL gM gN gO gP gQ gR gS gT gU gV gW gX gY gZ hA hB hD hE hF hG hH hI hJ hL hM hN hO hP hR hT hU hV hY hZ iA iB iC iD iE iF iG iH iI iJ iK iL iM iN iO iP iQ iR iS iT iU iV iW iX iY iZ:Value) (hK:∀j:Int,0≤j→j<14→(j<7∨11≤j∨2≤d)→Q .normal { tmps:=#[aA,aB,aC,aD,aE,aF,aG,aH,aI,aJ,.int .i64 j,aL,aM,aN,aO,aP,aQ,aR,aS,aT,aU,aV,aW,aX,aY,aZ,bA,bB,bC,bD,bE,bF,bG,bH,bI,.bool (decide (d<2) && decide (7≤k1) && decide (k1<11)),bK,bL,bM,bN,bO,bP,bQ,bR,bS,bT,bU,bV,bW,bX,bY,bZ,cA,cB,cC,cD,cE,cF,cG,cH,cI,cJ,cK,cL,cM,cN,cO,cP,cQ,cR,cS,cT,cU,cV,cW,cX,cY,cZ,dA,dB,dC,dD,dE,dG,dH,dI,dJ,dK,dL,dM,dN,dO,dP,dQ,dR,dS,dU,dV,dW,dX,dY,dZ,eA,eB,eC,eD,eE,eF,eG,eH,eI,eJ,eK,eL,eM,eN,eO,eP,eQ,eR,eS,eT,eU,eV,eW,eX,eY,eZ,fA,fB,fC,fD,fE,fF,fG,fH,fI,fJ,fK,fL,fM,fN,fO,fP,fQ,fR,fS,fT,fU,fV,fW,fX,fY,fZ,gA,gB,gC,gD,gE,gF,gG,gH,gI,gJ,gK,gL,gM,gN,gO,gP,gQ,gR,gS,gT,gU,gV,gW,gX,gY,gZ,hA,hB,hD,hE,hF,hG,hH,hI,hJ,hL,hM,hN,hO,hP,hR,hT,hU,hV,hY,hZ,iA,iB,iC,iD,iE,iF,iG,iH,iI,iJ,iK,iL,iM,iN,iO,iP,iQ,iR,iS,iT,iU,iV,iW,iX,iY,iZ],defers:=[] } Y):cc.wp Tryz.prog Q { tmps:=#[aA,aB,aC,aD,aE,aF,aG,aH,aI,aJ,.int .i64 (k1:Int),aL,aM,aN,aO,aP,aQ,aR,aS,aT,aU,aV,aW,aX,aY,aZ,bA,bB,bC,bD,bE,bF,bG,bH,bI,.bool (decide (d<2) && decide (7≤k1) && decide (k1<11)),bK,bL,bM,bN,bO,bP,bQ,bR,bS,bT,bU,bV,bW,bX,bY,bZ,cA,cB,cC,cD,cE,cF,cG,cH,cI,cJ,cK,cL,cM,cN,cO,cP,cQ,cR,cS,cT,cU,cV,cW,cX,cY,cZ,dA,dB,dC,dD,dE,dG,dH,dI,dJ,dK,dL,dM,dN,dO,dP,dQ,dR,dS,dU,dV,dW,dX,dY,dZ,eA,eB,eC,eD,eE,eF,eG,eH,eI,eJ,eK,eL,eM,eN,eO,eP,eQ,eR,eS,eT,eU,eV,eW,eX,eY,eZ,fA,fB,fC,fD,fE,fF,fG,fH,fI,fJ,fK,fL,fM,fN,fO,fP,fQ,fR,fS,fT,fU,fV,fW,fX,fY,fZ,gA,gB,gC,gD,gE,gF,gG,gH,gI,gJ,gK,gL,gM,gN,gO,gP,gQ,gR,gS,gT,gU,gV,gW,gX,gY,gZ,hA,hB,hD,hE,hF,hG,hH,hI,hJ,hL,hM,hN,hO,hP,hR,hT,hU,hV,hY,hZ,iA,iB,iC,iD,iE,iF,iG,iH,iI,iJ,iK,iL,iM,iN,iO,iP,iQ,iR,iS,iT,iU,iV,iW,iX,iY,iZ],defers:=[] } Y:=by
 have HKK:=Ω hK
 have hcc:Tryz.f26.body.bind (condOf 35)=some cc:=hc
 simp only [Tryz.f26,condOf,Nat.reduceEqDiff,Option.bind_some,↓reduceIte,Option.none_or,Option.or_none,Option.some.injEq] at hcc
 subst hcc
 clear hc hK
 by_cases h1:d<2∧7≤k1∧k1<11
 ·have hq:=HKK.out
  rw [dT h1.1,dT h1.2.1,dT h1.2.2] at hq ⊢
  have HQQ:=Ω hq
  clear h1 hq HKK
  go_wp2
  exact HQQ.out 0 (by omega) (by omega) (.inl (by omega))
 ·have hq:=HKK.out
  have e:(decide (d<2) && decide (7≤k1) && decide (k1<11))=false:=by
   by_cases q1:d<2
   ·by_cases q2:7≤k1
    ·rw [dF (fun q3=>h1 ⟨q1,q2,q3⟩),Bool.and_false]
    ·rw [dF q2,Bool.and_false,Bool.false_and]
   ·rw [dF q1,Bool.false_and,Bool.false_and]
  rw [e] at hq ⊢
  have H1:=Ω h1
  have HQQ:=Ω hq
  clear h1 e hq HKK
  go_wp2
  exact HQQ.out (k1:Int) (by omega) (by omega) (by have:=H1.out;omega)
set_option maxRecDepth 100000 in
set_option maxHeartbeats 8000000 in
theorem b10_any (cc:Code) (hc:(Tryz.f26.body.bind (regOf 10))=some cc) (Y:World) (gb na:Nat) (fr:Bool) (A:Option Addr) (cp:Nat) (hn:na≤400) (c0:Y.cell? ⟨gb,1,none⟩=some (.slice A na cp)) (c3:Y.cell? ⟨gb,3,none⟩=some (.bool fr))
  (Q:Exit→Act→World→Prop) (aA aB aC aE aF aG aH aI aJ aK aL aM aN aO aP aQ aR aS aT aU aV aW aX aY aZ bA bB bC bD bE bF bG bH bI bJ bK bL bM bN bO bP bQ bR bS bT bU bV bW bX bY bZ cA cB cC cD cE cF cG cH cI cJ cK cL cM cN cO cP cQ cR cS cT cU cV cW cX cY cZ dA dB dC dD dE dG dH dI dJ dK dL dM dN dO dP dQ dR dS dU dV dW dX dY dZ eA eB eC eD eE eF eG eH eI eJ eK eL eM eN eO eP eQ eR eS eT eU eV eW eX eY eZ fA fB fC fD fE fF fG fH fI fJ fK fL fM fN fO fP fQ fR fS fT fU fV fW fX fY fZ gA gB gC gD gE gF gG gH gI gJ gK gL gM gN gO gP gQ gR gS gT gU gV gW gX gY gZ hA hB hD hE hF hG hH hI hJ hL hM hN hO hP hR hT hU hV hY hZ iA iB iC iD iE iF iG iH iI iJ iK iL iM iN iO iP iQ iR iS iT iU iV iW iX iY iZ:Value) (hK:∀(jU jV jW jX jY jZ kA kB:Value),Q .normal { tmps:=#[aA,aB,aC,.pointer (some ⟨gb,0,none⟩),aE,aF,aG,aH,aI,aJ,aK,aL,.bool (decide (0<na) || fr),aN,aO,aP,aQ,aR,aS,aT,aU,aV,aW,aX,aY,aZ,bA,bB,bC,bD,bE,bF,bG,bH,bI,bJ,bK,jU,jV,jW,jX,jY,jZ,kA,kB,bT,bU,bV,bW,bX,bY,bZ,cA,cB,cC,cD,cE,cF,cG,cH,cI,cJ,cK,cL,cM,cN,cO,cP,cQ,cR,cS,cT,cU,cV,cW,cX,cY,cZ,dA,dB,dC,dD,dE,dG,dH,dI,dJ,dK,dL,dM,dN,dO,dP,dQ,dR,dS,dU,dV,dW,dX,dY,dZ,eA,eB,eC,eD,eE,eF,eG,eH,eI,eJ,eK,eL,eM,eN,eO,eP,eQ,eR,eS,eT,eU,eV,eW,eX,eY,eZ,fA,fB,fC,fD,fE,fF,fG,fH,fI,fJ,fK,fL,fM,fN,fO,fP,fQ,fR,fS,fT,fU,fV,fW,fX,fY,fZ,gA,gB,gC,gD,gE,gF,gG,gH,gI,gJ,gK,gL,gM,gN,gO,gP,gQ,gR,gS,gT,gU,gV,gW,gX,gY,gZ,hA,hB,hD,hE,hF,hG,hH,hI,hJ,hL,hM,hN,hO,hP,hR,hT,hU,hV,hY,hZ,iA,iB,iC,iD,iE,iF,iG,iH,iI,iJ,iK,iL,iM,iN,iO,iP,iQ,iR,iS,iT,iU,iV,iW,iX,iY,iZ],defers:=[] } Y):cc.wp Tryz.prog Q { tmps:=#[aA,aB,aC,.pointer (some ⟨gb,0,none⟩),aE,aF,aG,aH,aI,aJ,aK,aL,aM,aN,aO,aP,aQ,aR,aS,aT,aU,aV,aW,aX,aY,aZ,bA,bB,bC,bD,bE,bF,bG,bH,bI,bJ,bK,bL,bM,bN,bO,bP,bQ,bR,bS,bT,bU,bV,bW,bX,bY,bZ,cA,cB,cC,cD,cE,cF,cG,cH,cI,cJ,cK,cL,cM,cN,cO,cP,cQ,cR,cS,cT,cU,cV,cW,cX,cY,cZ,dA,dB,dC,dD,dE,dG,dH,dI,dJ,dK,dL,dM,dN,dO,dP,dQ,dR,dS,dU,dV,dW,dX,dY,dZ,eA,eB,eC,eD,eE,eF,eG,eH,eI,eJ,eK,eL,eM,eN,eO,eP,eQ,eR,eS,eT,eU,eV,eW,eX,eY,eZ,fA,fB,fC,fD,fE,fF,fG,fH,fI,fJ,fK,fL,fM,fN,fO,fP,fQ,fR,fS,fT,fU,fV,fW,fX,fY,fZ,gA,gB,gC,gD,gE,gF,gG,gH,gI,gJ,gK,gL,gM,gN,gO,gP,gQ,gR,gS,gT,gU,gV,gW,gX,gY,gZ,hA,hB,hD,hE,hF,hG,hH,hI,hJ,hL,hM,hN,hO,hP,hR,hT,hU,hV,hY,hZ,iA,iB,iC,iD,iE,iF,iG,iH,iI,iJ,iK,iL,iM,iN,iO,iP,iQ,iR,iS,iT,iU,iV,iW,iX,iY,iZ],defers:=[] } Y:=by
 have HKK:=Ω hK
 have hcc:Tryz.f26.body.bind (regOf 10)=some cc:=hc
 simp only [Tryz.f26,regOf,Nat.reduceEqDiff,Option.bind_some,↓reduceIte,Option.none_or,Option.or_none,Option.some.injEq] at hcc
 subst hcc
 clear hc hK
 rcases Nat.eq_zero_or_pos na with h0|h0
 ·subst h0
  have hq:=HKK.out
  rw [show (decide (0<0) || fr)=fr from rfl] at hq
  have HQQ:=Ω hq
  clear hq HKK
  go_wp2
  exact HQQ.out _ _ _ _ _ _ _ _
 ·have d1:decide ((na:Int) > 0)=true:=dT (by omega)
  have d2:decide (0<(na:Int))=true:=dT (by omega)
  have hq:=HKK.out
  rw [dT h0,Bool.true_or] at hq
  have HQQ:=Ω hq
  clear hq HKK
  go_wp2
  exact HQQ.out _ _ _ _ _ _ _ _
set_option maxRecDepth 100000 in
set_option maxHeartbeats 8000000 in
theorem b11_any (cc:Code) (hc:(Tryz.f26.body.bind (regOf 11))=some cc) (Y:World) (gb nv:Nat) (fr:Bool) (A:Option Addr) (cp:Nat) (hn:nv≤400) (c0:Y.cell? ⟨gb,0,none⟩=some (.slice A nv cp)) (c3:Y.cell? ⟨gb,3,none⟩=some (.bool fr))
  (Q:Exit→Act→World→Prop) (aA aB aC aE aF aG aH aI aJ aK aL aM aN aO aP aQ aR aS aT aU aV aW aX aY aZ bA bB bC bD bE bF bG bH bI bJ bK bL bM bN bO bP bQ bR bS bT bU bV bW bX bY bZ cA cB cC cD cE cF cG cH cI cJ cK cL cM cN cO cP cQ cR cS cT cU cV cW cX cY cZ dA dB dC dD dE dG dH dI dJ dK dL dM dN dO dP dQ dR dS dU dV dW dX dY dZ eA eB eC eD eE eF eG eH eI eJ eK eL eM eN eO eP eQ eR eS eT eU eV eW eX eY eZ fA fB fC fD fE fF fG fH fI fJ fK fL fM fN fO fP fQ fR fS fT fU fV fW fX fY fZ gA gB gC gD gE gF gG gH gI gJ gK gL gM gN gO gP gQ gR gS gT gU gV gW gX gY gZ hA hB hD hE hF hG hH hI hJ hL hM hN hO hP hR hT hU hV hY hZ iA iB iC iD iE iF iG iH iI iJ iK iL iM iN iO iP iQ iR iS iT iU iV iW iX iY iZ:Value) (hK:∀(kC kD kE kF kG kH kI kJ:Value),Q .normal { tmps:=#[aA,aB,aC,.pointer (some ⟨gb,0,none⟩),aE,aF,aG,aH,aI,aJ,aK,aL,aM,.bool (decide (0<nv) || fr),aO,aP,aQ,aR,aS,aT,aU,aV,aW,aX,aY,aZ,bA,bB,bC,bD,bE,bF,bG,bH,bI,bJ,bK,bL,bM,bN,bO,bP,bQ,bR,bS,kC,kD,kE,kF,kG,kH,kI,kJ,cB,cC,cD,cE,cF,cG,cH,cI,cJ,cK,cL,cM,cN,cO,cP,cQ,cR,cS,cT,cU,cV,cW,cX,cY,cZ,dA,dB,dC,dD,dE,dG,dH,dI,dJ,dK,dL,dM,dN,dO,dP,dQ,dR,dS,dU,dV,dW,dX,dY,dZ,eA,eB,eC,eD,eE,eF,eG,eH,eI,eJ,eK,eL,eM,eN,eO,eP,eQ,eR,eS,eT,eU,eV,eW,eX,eY,eZ,fA,fB,fC,fD,fE,fF,fG,fH,fI,fJ,fK,fL,fM,fN,fO,fP,fQ,fR,fS,fT,fU,fV,fW,fX,fY,fZ,gA,gB,gC,gD,gE,gF,gG,gH,gI,gJ,gK,gL,gM,gN,gO,gP,gQ,gR,gS,gT,gU,gV,gW,gX,gY,gZ,hA,hB,hD,hE,hF,hG,hH,hI,hJ,hL,hM,hN,hO,hP,hR,hT,hU,hV,hY,hZ,iA,iB,iC,iD,iE,iF,iG,iH,iI,iJ,iK,iL,iM,iN,iO,iP,iQ,iR,iS,iT,iU,iV,iW,iX,iY,iZ],defers:=[] } Y):cc.wp Tryz.prog Q { tmps:=#[aA,aB,aC,.pointer (some ⟨gb,0,none⟩),aE,aF,aG,aH,aI,aJ,aK,aL,aM,aN,aO,aP,aQ,aR,aS,aT,aU,aV,aW,aX,aY,aZ,bA,bB,bC,bD,bE,bF,bG,bH,bI,bJ,bK,bL,bM,bN,bO,bP,bQ,bR,bS,bT,bU,bV,bW,bX,bY,bZ,cA,cB,cC,cD,cE,cF,cG,cH,cI,cJ,cK,cL,cM,cN,cO,cP,cQ,cR,cS,cT,cU,cV,cW,cX,cY,cZ,dA,dB,dC,dD,dE,dG,dH,dI,dJ,dK,dL,dM,dN,dO,dP,dQ,dR,dS,dU,dV,dW,dX,dY,dZ,eA,eB,eC,eD,eE,eF,eG,eH,eI,eJ,eK,eL,eM,eN,eO,eP,eQ,eR,eS,eT,eU,eV,eW,eX,eY,eZ,fA,fB,fC,fD,fE,fF,fG,fH,fI,fJ,fK,fL,fM,fN,fO,fP,fQ,fR,fS,fT,fU,fV,fW,fX,fY,fZ,gA,gB,gC,gD,gE,gF,gG,gH,gI,gJ,gK,gL,gM,gN,gO,gP,gQ,gR,gS,gT,gU,gV,gW,gX,gY,gZ,hA,hB,hD,hE,hF,hG,hH,hI,hJ,hL,hM,hN,hO,hP,hR,hT,hU,hV,hY,hZ,iA,iB,iC,iD,iE,iF,iG,iH,iI,iJ,iK,iL,iM,iN,iO,iP,iQ,iR,iS,iT,iU,iV,iW,iX,iY,iZ],defers:=[] } Y:=by
 have HKK:=Ω hK
 have hcc:Tryz.f26.body.bind (regOf 11)=some cc:=hc
 simp only [Tryz.f26,regOf,Nat.reduceEqDiff,Option.bind_some,↓reduceIte,Option.none_or,Option.or_none,Option.some.injEq] at hcc
 subst hcc
 clear hc hK
 rcases Nat.eq_zero_or_pos nv with h0|h0
 ·subst h0
  have hq:=HKK.out
  rw [show (decide (0<0) || fr)=fr from rfl] at hq
  have HQQ:=Ω hq
  clear hq HKK
  go_wp2
  exact HQQ.out _ _ _ _ _ _ _ _
 ·have d1:decide ((nv:Int) > 0)=true:=dT (by omega)
  have d2:decide (0<(nv:Int))=true:=dT (by omega)
  have hq:=HKK.out
  rw [dT h0,Bool.true_or] at hq
  have HQQ:=Ω hq
  clear hq HKK
  go_wp2
  exact HQQ.out _ _ _ _ _ _ _ _
set_option maxRecDepth 100000 in
set_option maxHeartbeats 8000000 in
theorem b12_any (cc:Code) (hc:(Tryz.f26.body.bind (regOf 12))=some cc) (Y:World) (gb nf:Nat) (fr:Bool) (A:Option Addr) (cp:Nat) (hn:nf≤400) (c0:Y.cell? ⟨gb,2,none⟩=some (.slice A nf cp)) (c3:Y.cell? ⟨gb,3,none⟩=some (.bool fr))
  (Q:Exit→Act→World→Prop) (aA aB aC aE aF aG aH aI aJ aK aL aM aN aO aP aQ aR aS aT aU aV aW aX aY aZ bA bB bC bD bE bF bG bH bI bJ bK bL bM bN bO bP bQ bR bS bT bU bV bW bX bY bZ cA cB cC cD cE cF cG cH cI cJ cK cL cM cN cO cP cQ cR cS cT cU cV cW cX cY cZ dA dB dC dD dE dG dH dI dJ dK dL dM dN dO dP dQ dR dS dU dV dW dX dY dZ eA eB eC eD eE eF eG eH eI eJ eK eL eM eN eO eP eQ eR eS eT eU eV eW eX eY eZ fA fB fC fD fE fF fG fH fI fJ fK fL fM fN fO fP fQ fR fS fT fU fV fW fX fY fZ gA gB gC gD gE gF gG gH gI gJ gK gL gM gN gO gP gQ gR gS gT gU gV gW gX gY gZ hA hB hD hE hF hG hH hI hJ hL hM hN hO hP hR hT hU hV hY hZ iA iB iC iD iE iF iG iH iI iJ iK iL iM iN iO iP iQ iR iS iT iU iV iW iX iY iZ:Value) (hK:∀(kK kL kM kN kO kP kQ kR:Value),Q .normal { tmps:=#[aA,aB,aC,.pointer (some ⟨gb,0,none⟩),aE,aF,aG,aH,aI,aJ,aK,aL,aM,aN,.bool (decide (0<nf) || fr),aP,aQ,aR,aS,aT,aU,aV,aW,aX,aY,aZ,bA,bB,bC,bD,bE,bF,bG,bH,bI,bJ,bK,bL,bM,bN,bO,bP,bQ,bR,bS,bT,bU,bV,bW,bX,bY,bZ,cA,kK,kL,kM,kN,kO,kP,kQ,kR,cJ,cK,cL,cM,cN,cO,cP,cQ,cR,cS,cT,cU,cV,cW,cX,cY,cZ,dA,dB,dC,dD,dE,dG,dH,dI,dJ,dK,dL,dM,dN,dO,dP,dQ,dR,dS,dU,dV,dW,dX,dY,dZ,eA,eB,eC,eD,eE,eF,eG,eH,eI,eJ,eK,eL,eM,eN,eO,eP,eQ,eR,eS,eT,eU,eV,eW,eX,eY,eZ,fA,fB,fC,fD,fE,fF,fG,fH,fI,fJ,fK,fL,fM,fN,fO,fP,fQ,fR,fS,fT,fU,fV,fW,fX,fY,fZ,gA,gB,gC,gD,gE,gF,gG,gH,gI,gJ,gK,gL,gM,gN,gO,gP,gQ,gR,gS,gT,gU,gV,gW,gX,gY,gZ,hA,hB,hD,hE,hF,hG,hH,hI,hJ,hL,hM,hN,hO,hP,hR,hT,hU,hV,hY,hZ,iA,iB,iC,iD,iE,iF,iG,iH,iI,iJ,iK,iL,iM,iN,iO,iP,iQ,iR,iS,iT,iU,iV,iW,iX,iY,iZ],defers:=[] } Y):cc.wp Tryz.prog Q { tmps:=#[aA,aB,aC,.pointer (some ⟨gb,0,none⟩),aE,aF,aG,aH,aI,aJ,aK,aL,aM,aN,aO,aP,aQ,aR,aS,aT,aU,aV,aW,aX,aY,aZ,bA,bB,bC,bD,bE,bF,bG,bH,bI,bJ,bK,bL,bM,bN,bO,bP,bQ,bR,bS,bT,bU,bV,bW,bX,bY,bZ,cA,cB,cC,cD,cE,cF,cG,cH,cI,cJ,cK,cL,cM,cN,cO,cP,cQ,cR,cS,cT,cU,cV,cW,cX,cY,cZ,dA,dB,dC,dD,dE,dG,dH,dI,dJ,dK,dL,dM,dN,dO,dP,dQ,dR,dS,dU,dV,dW,dX,dY,dZ,eA,eB,eC,eD,eE,eF,eG,eH,eI,eJ,eK,eL,eM,eN,eO,eP,eQ,eR,eS,eT,eU,eV,eW,eX,eY,eZ,fA,fB,fC,fD,fE,fF,fG,fH,fI,fJ,fK,fL,fM,fN,fO,fP,fQ,fR,fS,fT,fU,fV,fW,fX,fY,fZ,gA,gB,gC,gD,gE,gF,gG,gH,gI,gJ,gK,gL,gM,gN,gO,gP,gQ,gR,gS,gT,gU,gV,gW,gX,gY,gZ,hA,hB,hD,hE,hF,hG,hH,hI,hJ,hL,hM,hN,hO,hP,hR,hT,hU,hV,hY,hZ,iA,iB,iC,iD,iE,iF,iG,iH,iI,iJ,iK,iL,iM,iN,iO,iP,iQ,iR,iS,iT,iU,iV,iW,iX,iY,iZ],defers:=[] } Y:=by
 have HKK:=Ω hK
 have hcc:Tryz.f26.body.bind (regOf 12)=some cc:=hc
 simp only [Tryz.f26,regOf,Nat.reduceEqDiff,Option.bind_some,↓reduceIte,Option.none_or,Option.or_none,Option.some.injEq] at hcc
 subst hcc
 clear hc hK
 rcases Nat.eq_zero_or_pos nf with h0|h0
 ·subst h0
  have hq:=HKK.out
  rw [show (decide (0<0) || fr)=fr from rfl] at hq
  have HQQ:=Ω hq
  clear hq HKK
  go_wp2
  exact HQQ.out _ _ _ _ _ _ _ _
 ·have d1:decide ((nf:Int) > 0)=true:=dT (by omega)
  have d2:decide (0<(nf:Int))=true:=dT (by omega)
  have hq:=HKK.out
  rw [dT h0,Bool.true_or] at hq
  have HQQ:=Ω hq
  clear hq HKK
  go_wp2
  exact HQQ.out _ _ _ _ _ _ _ _
set_option maxRecDepth 100000 in
set_option maxHeartbeats 8000000 in
theorem round_any (cc:Code) (hc:(Tryz.f26.body.bind (blkOf 1))=some cc) {fr:Bool} {w:World} {sb:Nat} {c:Scp} {Av Aa Af:Option Addr} {nv na nf cv ca cf:Nat} {loop:Bool} {d:Nat} (G:GCtx fr w sb c Av Aa Af nv na nf cv ca cf loop d) (wr:World) (lo:List LStmt) (Ao:Option Addr) (no co:Nat) (hb:BoxT w sb wr (w.heap.size+1) w.heap.size 61 #[.slice Av nv cv,.slice Aa na ca,.slice Af nf cf,.bool fr,.bool loop] (d+4) (GoodS c d loop) (.slice Ao no co) lo) (hno:no=lo.length) (hno4:no≤4)
  (Q:Exit→Act→World→Prop) (hQ:∀p (a:Act) t (v:Value) (w':World),Q (Exit.panic p) (a.put t v) w'→Q (Exit.panic p) a w') (aA aE aF aG aI aJ aK aL aM aN aO aP aQ aR aS aT aU aV aW aX aY aZ bA bB bC bD bE bF bG bH bI bJ bK bL bM bN bO bP bQ bR bS bT bU bV bW bX bY bZ cA cB cC cD cE cF cG cH cI cJ cK cL cM cN cO cP cQ cR cS cT cU cV cW cX cY cZ dA dB dC dD dE dG dH dI dJ dK dL dM dN dO dP dQ dR dS dU dV dW dX dY dZ eA eB eC eD eE eF eG eH eI eJ eK eL eM eN eO eP eQ eR eS eT eU eV eW eX eY eZ fA fB fC fD fE fF fG fH fI fJ fK fL fM fN fO fP fQ fR fS fT fU fV fW fX fY fZ gA gB gC gD gE gF gG gH gI gJ gK gL gM gN gO gP gQ gR gS gT gU gV gW gX gY gZ hA hB hD hE hF hG hH hI hJ hL hM hN hO hP hR hT hU hV hY hZ iA iB iC iD iE iF iG iH iI iJ iK iL iM iN iO iP iQ iR iS iT iU iV iW iX iY iZ:Value)
  (hK:∀(jA jB jC jD jE jF jG jH jI jJ jK jL jM jN jO jP jQ jR jS jT jU jV jW jX jY jZ kA kB kC kD kE kF kG kH kI kJ kK kL kM kN kO kP kQ kR kS kT kU kV kW kX kY kZ lA lB lC lD lE lF lG lH lI lJ lK lL lM lN lO lP lQ lR lS lT lU lV lW lX lY lZ mA mB mC mD mF mG mH mI mJ mK mL mM mN mO mP mQ mR mS mT mU mV mW mX mY mZ nA nB nC nD nE nF nG nH nI nJ nK nL nM nN nO nP nQ nR nS nT nU nV nW nX nY nZ oA oB oC oD oE oF oG oH oI oJ oK oL oM oN oO oP oQ oR oS oT oU oV oW oX oY oZ pA pB pC pD pE pF pG pH pI pJ pK pL pM pN pO pP pQ pR pS pT pU pV pW pX pY pZ qA qB qC qD qE qF qG qH qI qJ qK qL qM qN qO qP qQ qR qS qT qU qV qW qX qY qZ rA:Value) (Ap:Option Addr) (cp:Nat) (l2:List LStmt) (w':World),l2.length=no+1→BoxT w sb w' (w.heap.size+1) w.heap.size 61 #[.slice Av nv cv,.slice Aa na ca,.slice Af nf cf,.bool fr,.bool loop] (d+4) (GoodS c d loop) (.slice Ap (no+1) cp) l2→Q .normal { tmps:=#[aA,.pointer (some ⟨sb,0,none⟩),.int .i64 (d:Int),.pointer (some ⟨w.heap.size,0,none⟩),aE,aF,aG,.slice Ap (no+1) cp,aI,aJ,jA,jB,jC,jD,jE,jF,jG,aR,aS,aT,aU,aV,aW,aX,jH,jI,jJ,jK,jL,jM,jN,jO,jP,jQ,jR,jS,jT,jU,jV,jW,jX,jY,jZ,kA,kB,kC,kD,kE,kF,kG,kH,kI,kJ,kK,kL,kM,kN,kO,kP,kQ,kR,kS,kT,kU,kV,kW,kX,kY,kZ,lA,lB,lC,lD,lE,lF,lG,lH,lI,lJ,lK,lL,lM,lN,lO,lP,lQ,lR,lS,lT,lU,lV,lW,lX,lY,lZ,mA,mB,mC,mD,mF,mG,mH,mI,mJ,mK,mL,mM,mN,mO,mP,mQ,mR,mS,mT,mU,mV,mW,mX,mY,mZ,nA,nB,nC,nD,nE,nF,nG,nH,nI,nJ,nK,nL,nM,nN,nO,nP,nQ,nR,nS,nT,nU,nV,nW,nX,nY,nZ,oA,oB,oC,oD,oE,oF,oG,oH,oI,oJ,oK,oL,oM,oN,oO,oP,oQ,oR,oS,oT,oU,oV,oW,oX,oY,oZ,pA,pB,pC,pD,pE,pF,pG,pH,pI,pJ,pK,pL,pM,pN,pO,pP,pQ,pR,pS,pT,pU,pV,pW,pX,pY,pZ,qA,qB,qC,qD,qE,qF,qG,qH,qI,qJ,qK,qL,qM,qN,qO,qP,qQ,qR,qS,qT,qU,qV,qW,qX,qY,qZ,rA,iZ],defers:=[] } w') :
  (Code.block 1 cc).wp Tryz.prog Q { tmps:=#[aA,.pointer (some ⟨sb,0,none⟩),.int .i64 (d:Int),.pointer (some ⟨w.heap.size,0,none⟩),aE,aF,aG,.slice Ao no co,aI,aJ,aK,aL,aM,aN,aO,aP,aQ,aR,aS,aT,aU,aV,aW,aX,aY,aZ,bA,bB,bC,bD,bE,bF,bG,bH,bI,bJ,bK,bL,bM,bN,bO,bP,bQ,bR,bS,bT,bU,bV,bW,bX,bY,bZ,cA,cB,cC,cD,cE,cF,cG,cH,cI,cJ,cK,cL,cM,cN,cO,cP,cQ,cR,cS,cT,cU,cV,cW,cX,cY,cZ,dA,dB,dC,dD,dE,dG,dH,dI,dJ,dK,dL,dM,dN,dO,dP,dQ,dR,dS,dU,dV,dW,dX,dY,dZ,eA,eB,eC,eD,eE,eF,eG,eH,eI,eJ,eK,eL,eM,eN,eO,eP,eQ,eR,eS,eT,eU,eV,eW,eX,eY,eZ,fA,fB,fC,fD,fE,fF,fG,fH,fI,fJ,fK,fL,fM,fN,fO,fP,fQ,fR,fS,fT,fU,fV,fW,fX,fY,fZ,gA,gB,gC,gD,gE,gF,gG,gH,gI,gJ,gK,gL,gM,gN,gO,gP,gQ,gR,gS,gT,gU,gV,gW,gX,gY,gZ,hA,hB,hD,hE,hF,hG,hH,hI,hJ,hL,hM,hN,hO,hP,hR,hT,hU,hV,hY,hZ,iA,iB,iC,iD,iE,iF,iG,iH,iI,iJ,iK,iL,iM,iN,iO,iP,iQ,iR,iS,iT,iU,iV,iW,iX,iY,iZ],defers:=[] } wr:=by
 have HKK:=Ω hK
 have HQ:=Ω hQ
 have hcc:Tryz.f26.body.bind (blkOf 1)=some cc:=hc
 simp only [Tryz.f26,blkOf,Option.bind_some,Nat.reduceEqDiff,↓reduceIte,Option.none_or,Option.or_none,Option.some.injEq] at hcc
 subst hcc
 have HG:=Ω G
 have HT:=Ω hb
 have HNO:=Ω hno
 have HNE:Hid (sb≠w.heap.size):=Ω (by have:=G.sb;omega)
 have hd:=G.hd
 have hd2:=G.hd2
 have HSB:=Ω G.sb
 have lv:=G.lv
 have la:=G.la
 have lf:=G.lf
 obtain ⟨zt,ht0,ht1,ht2,ht3⟩:=info_parts info_stmt
 clear hc hK hQ hb hno G
 go_upto_region 7 with (go_at_call 21;refine (next_any _ sb 14 (by omega) HT.out.src).mono ?_;rintro e w1 ⟨⟨k1,hk1,rfl⟩,hs1,hg1⟩;have HT2:=Ω (HT.out.step hg1 hs1);clear hs1 hg1)
 have hk2:=hk1
 refine k7_any _ (by kernel_rfl) w1 d k1 hd2 hk2 _ _ _ _ _ _ _ _ _ _ _ _ _ _ _ _ _ _ _ _ _ _ _ _ _ _ _ _ _ _ _ _ _ _ _ _ _ _ _ _ _ _ _ _ _ _ _ _ _ _ _ _ _ _ _ _ _ _ _ _ _ _ _ _ _ _ _ _ _ _ _ _ _ _ _ _ _ _ _ _ _ _ _ _ _ _ _ _ _ _ _ _ _ _ _ _ _ _ _ _ _ _ _ _ _ _ _ _ _ _ _ _ _ _ _ _ _ _ _ _ _ _ _ _ _ _ _ _ _ _ _ _ _ _ _ _ _ _ _ _ _ _ _ _ _ _ _ _ _ _ _ _ _ _ _ _ _ _ _ _ _ _ _ _ _ _ _ _ _ _ _ _ _ _ _ _ _ _ _ _ _ _ _ _ _ _ _ _ _ _ _ _ _ _ _ _ _ _ _ _ _ _ _ _ _ _ _ _ _ _ _ _ _ _ _ _ _ _ _ _ _ _ _ _ _ ?_
 intro _ _ _ _ _ _ _ _ _
 go_upto_if 35 with fail
 refine kc_any _ (by kernel_rfl) w1 d k1 hk2 _ _ _ _ _ _ _ _ _ _ _ _ _ _ _ _ _ _ _ _ _ _ _ _ _ _ _ _ _ _ _ _ _ _ _ _ _ _ _ _ _ _ _ _ _ _ _ _ _ _ _ _ _ _ _ _ _ _ _ _ _ _ _ _ _ _ _ _ _ _ _ _ _ _ _ _ _ _ _ _ _ _ _ _ _ _ _ _ _ _ _ _ _ _ _ _ _ _ _ _ _ _ _ _ _ _ _ _ _ _ _ _ _ _ _ _ _ _ _ _ _ _ _ _ _ _ _ _ _ _ _ _ _ _ _ _ _ _ _ _ _ _ _ _ _ _ _ _ _ _ _ _ _ _ _ _ _ _ _ _ _ _ _ _ _ _ _ _ _ _ _ _ _ _ _ _ _ _ _ _ _ _ _ _ _ _ _ _ _ _ _ _ _ _ _ _ _ _ _ _ _ _ _ _ _ _ _ _ _ _ _ _ _ _ _ _ _ _ _ _ _ _ _ _ _ ?_
 intro j hj0' hj14 hjd
 clear hk1 hk2
 go_upto_region 9 with fail
 go_upto_region 10 with fail
 refine wp_world ?_
 intro W hW
 have hbx:BoxS w1 sb W (w1.heap.size+1) w1.heap.size 45 #[.int .i64 8,.string ⟨#[]⟩,.slice none 0 0,.slice none 0 0,.slice none 0 0] (d+4) (mE c 4) (.slice none 0 0) []:=by
  have hb0:BoxS w1 sb (w1.alloc (.cells #[.int .i64 8,.string ⟨#[]⟩,.slice none 0 0,.slice none 0 0,.slice none 0 0] 45)) (w1.heap.size+1) w1.heap.size 45 #[.int .i64 8,.string ⟨#[]⟩,.slice none 0 0,.slice none 0 0,.slice none 0 0] (d+4) (mE c 4) (.slice none 0 0) []:=
   ⟨grown_below' (below1 _ _),HT2.out.src.below (below1 _ _),Blk.new _ _ _,Nat.le_refl _,Nat.lt_succ_self _,by simp,⟨[],OwnL.nil_ _ _ _ _ _⟩,(fun _ h=>by cases h),HT2.out.src.lt⟩
  exact hW▸hb0
 have HBX:=Ω hbx
 clear hW hbx
 have HSCB:Hid (Blk w1 w.heap.size 61 #[.slice Av nv cv,.slice Aa na ca,.slice Af nf cf,.bool fr,.bool loop]):=Ω HT2.out.blk
 have HGW:Hid (w.grownBy w1 (some sb)):=Ω HT2.out.gr
 obtain ⟨ab0,ab1,ab2,ab3,ab4⟩:=(HBX.out.sc HSCB.out HNE.out).c5
 refine b10_any _ (by kernel_rfl) W w.heap.size na fr Aa ca (by omega) ab1 ab3 _ _ _ _ _ _ _ _ _ _ _ _ _ _ _ _ _ _ _ _ _ _ _ _ _ _ _ _ _ _ _ _ _ _ _ _ _ _ _ _ _ _ _ _ _ _ _ _ _ _ _ _ _ _ _ _ _ _ _ _ _ _ _ _ _ _ _ _ _ _ _ _ _ _ _ _ _ _ _ _ _ _ _ _ _ _ _ _ _ _ _ _ _ _ _ _ _ _ _ _ _ _ _ _ _ _ _ _ _ _ _ _ _ _ _ _ _ _ _ _ _ _ _ _ _ _ _ _ _ _ _ _ _ _ _ _ _ _ _ _ _ _ _ _ _ _ _ _ _ _ _ _ _ _ _ _ _ _ _ _ _ _ _ _ _ _ _ _ _ _ _ _ _ _ _ _ _ _ _ _ _ _ _ _ _ _ _ _ _ _ _ _ _ _ _ _ _ _ _ _ _ _ _ _ _ _ _ _ _ _ _ _ _ _ _ _ _ _ _ _ _ _ _ _ _ _ ?_
 intro _ _ _ _ _ _ _ _
 go_upto_region 11 with fail
 refine b11_any _ (by kernel_rfl) W w.heap.size nv fr Av cv (by omega) ab0 ab3 _ _ _ _ _ _ _ _ _ _ _ _ _ _ _ _ _ _ _ _ _ _ _ _ _ _ _ _ _ _ _ _ _ _ _ _ _ _ _ _ _ _ _ _ _ _ _ _ _ _ _ _ _ _ _ _ _ _ _ _ _ _ _ _ _ _ _ _ _ _ _ _ _ _ _ _ _ _ _ _ _ _ _ _ _ _ _ _ _ _ _ _ _ _ _ _ _ _ _ _ _ _ _ _ _ _ _ _ _ _ _ _ _ _ _ _ _ _ _ _ _ _ _ _ _ _ _ _ _ _ _ _ _ _ _ _ _ _ _ _ _ _ _ _ _ _ _ _ _ _ _ _ _ _ _ _ _ _ _ _ _ _ _ _ _ _ _ _ _ _ _ _ _ _ _ _ _ _ _ _ _ _ _ _ _ _ _ _ _ _ _ _ _ _ _ _ _ _ _ _ _ _ _ _ _ _ _ _ _ _ _ _ _ _ _ _ _ _ _ _ _ _ _ _ _ _ ?_
 intro _ _ _ _ _ _ _ _
 go_upto_region 12 with fail
 refine b12_any _ (by kernel_rfl) W w.heap.size nf fr Af cf (by omega) ab2 ab3 _ _ _ _ _ _ _ _ _ _ _ _ _ _ _ _ _ _ _ _ _ _ _ _ _ _ _ _ _ _ _ _ _ _ _ _ _ _ _ _ _ _ _ _ _ _ _ _ _ _ _ _ _ _ _ _ _ _ _ _ _ _ _ _ _ _ _ _ _ _ _ _ _ _ _ _ _ _ _ _ _ _ _ _ _ _ _ _ _ _ _ _ _ _ _ _ _ _ _ _ _ _ _ _ _ _ _ _ _ _ _ _ _ _ _ _ _ _ _ _ _ _ _ _ _ _ _ _ _ _ _ _ _ _ _ _ _ _ _ _ _ _ _ _ _ _ _ _ _ _ _ _ _ _ _ _ _ _ _ _ _ _ _ _ _ _ _ _ _ _ _ _ _ _ _ _ _ _ _ _ _ _ _ _ _ _ _ _ _ _ _ _ _ _ _ _ _ _ _ _ _ _ _ _ _ _ _ _ _ _ _ _ _ _ _ _ _ _ _ _ _ _ _ _ _ _ ?_
 intro _ _ _ _ _ _ _ _
 clear ab0 ab1 ab2 ab3 ab4
 go_upto_block 2 with fail
 refine sw_any _ (by kernel_rfl) HG.out HGW.out HSCB.out W j (decide (0<na) || fr) (decide (0<nv) || fr) (decide (0<nf) || fr) HBX.out hj0' hj14 hjd _ (by exact fun p a t v w' h=>HQ.out p a t v w' h) _ _ _ _ _ _ _ _ _ _ _ _ _ _ _ _ _ _ _ _ _ _ _ _ _ _ _ _ _ _ _ _ _ _ _ _ _ _ _ _ _ _ _ _ _ _ _ _ _ _ _ _ _ _ _ _ _ _ _ _ _ _ _ _ _ _ _ _ _ _ _ _ _ _ _ _ _ _ _ _ _ _ _ _ _ _ _ _ _ _ _ _ _ _ _ _ _ _ _ _ _ _ _ _ _ _ _ _ _ _ _ _ _ _ _ _ _ _ _ _ _ _ _ _ _ _ _ _ _ _ _ _ _ _ _ _ _ _ _ _ _ _ _ _ _ _ _ _ _ _ _ _ _ _ _ _ _ _ _ _ _ _ _ _ _ _ _ _ _ _ _ _ _ _ _ _ _ _ _ _ _ _ _ _ _ _ _ _ _ _ _ _ _ _ _ _ _ _ _ _ _ _ _ _ _ _ _ _ _ _ _ _ _ _ _ _ _ _ ?_
 clear HBX
 intros
 rename_i Z hm
 obtain ⟨kd,nm,v,vt,ve,l,thn,els,hb,hh,hr⟩:=hm
 obtain ⟨At,ct,hvt⟩:=hr.rows.1.val
 obtain ⟨Ae,ce,hve⟩:=hr.rows.2.val
 subst hvt hve
 have kx:Z.cell? ⟨w1.heap.size,0,none⟩=some (.int .i64 kd):=hb.blk.cell 0
 have HB:=Ω hb
 have HH:=Ω hh
 have HR:=Ω hr
 clear hb hh hr
 obtain ⟨css,hcss⟩:=HT2.out.own
 have HOW:=Ω hcss
 clear hcss
 by_cases h2:kd=2
 ·subst h2
  go_upto_block 3 with fail
  refine fill_any _ (by kernel_rfl) HG.out HGW.out HSCB.out Z 2 nm v l At Ae thn.length els.length ct ce 2 thn els HB.out HH.out HR.out rfl _ (by exact fun p a t v w' h=>HQ.out p a t v w' h) _ _ _ _ _ _ _ _ _ _ _ _ _ _ _ _ _ _ _ _ _ _ _ _ _ _ _ _ _ _ _ _ _ _ _ _ _ _ _ _ _ _ _ _ _ _ _ _ _ _ _ _ _ _ _ _ _ _ _ _ _ _ _ _ _ _ _ _ _ _ _ _ _ _ _ _ _ _ _ _ _ _ _ _ _ _ _ _ _ _ _ _ _ _ _ _ _ _ _ _ _ _ _ _ _ _ _ _ _ _ _ _ _ _ _ _ _ _ _ _ _ _ _ _ _ _ _ _ _ _ _ _ _ _ _ _ _ _ _ _ _ _ _ _ _ _ _ _ _ _ _ _ _ _ _ _ _ _ _ _ _ _ _ _ _ _ _ _ _ _ _ _ _ _ _ _ _ _ _ _ _ _ _ _ _ _ _ _ _ _ _ _ _ _ _ _ _ _ _ _ _ _ _ _ _ _ _ _ _ _ _ _ _ _ _ _ _ _ _ _ _ ?_
  intros
  rename_i Y hdn
  obtain ⟨s,Av2,At2,Ae2,cv2,ct2,ce2,hgY,hsY,hbY,hxY,hgood⟩:=hdn
  obtain ⟨y0,y1,y2,y3,y4⟩:=hbY.c5
  have hown:=HT2.out.row2 hgY (below1 Y (.cells #[.int .i64 s.kind,.string s.name,.slice Av2 s.args.length cv2,.slice At2 s.thn.length ct2,.slice Ae2 s.els.length ce2] 45)) HNO.out HOW.out
  have hbY2:=HT2.out.bs
  have hgs:=hgY.size
  have HY:=Ω (And.intro hgY (And.intro hsY (And.intro hxY hgood)))
  clear hgY hsY hbY hxY hgood
  go_wp2_with (at_builtin;refine wpList_append_lies _ rfl _ _ _ rfl (w.heap.size+1) 45 zt _ 5 96 Tryz.underlying43 ht0 ht1 ht2 ht3 rfl (by decide) (.slice Ao no co) no css.flatten rfl hown ⟨Y.heap.size,0,none⟩ 1 1 [.int .i64 s.kind,.string s.name,.slice Av2 s.args.length cv2,.slice At2 s.thn.length ct2,.slice Ae2 s.els.length ce2] rfl rfl (World.news_of_block (cs:=#[.int .i64 s.kind,.string s.name,.slice Av2 s.args.length cv2,.slice At2 s.thn.length ct2,.slice Ae2 s.els.length ce2]) (t:=45) (fr:=(0,0)) (heap_alloc_new Y _)) (by simp [Value.oneCell']) (by decide) (by unfold maxLen;omega) (by omega) (by simp;omega) (Y.heap.size+1) (by simp) ?_;intro gp cp X3 hown3 hgrow3 hat3 hlt3)
  have hfin:=HT2.out.next HY.out.1 HY.out.2.1 (Nat.le_refl _) HY.out.2.2.1 HY.out.2.2.2 (below1 Y (.cells #[.int .i64 s.kind,.string s.name,.slice Av2 s.args.length cv2,.slice At2 s.thn.length ct2,.slice Ae2 s.els.length ce2] 45)) HNO.out HOW.out hown3 hgrow3 (by rcases hat3 with h|h;exact .inl h;exact .inr (by rw [h];simp))
  exact HKK.out _ _ _ _ _ _ _ _ _ _ _ _ _ _ _ _ _ _ _ _ _ _ _ _ _ _ _ _ _ _ _ _ _ _ _ _ _ _ _ _ _ _ _ _ _ _ _ _ _ _ _ _ _ _ _ _ _ _ _ _ _ _ _ _ _ _ _ _ _ _ _ _ _ _ _ _ _ _ _ _ _ _ _ _ _ _ _ _ _ _ _ _ _ _ _ _ _ _ _ _ _ _ _ _ _ _ _ _ _ _ _ _ _ _ _ _ _ _ _ _ _ _ _ _ _ _ _ _ _ _ _ _ _ _ _ _ _ _ _ _ _ _ _ _ _ _ _ _ _ _ _ _ _ _ _ _ _ _ _ _ _ _ _ _ _ _ _ _ _ _ _ _ _ _ _ _ _ _ _ _ _ _ _ _ _ _ _ _ _ _ _ _ _ _ _ _ _ _ _ _ _ _ _ _ _ _ _ _ _ _ _ _ (by rw [List.length_append,List.length_singleton,←HNO.out]) hfin
 ·have e2:(kd == 2)=false:=beq_eq_false_iff_ne.2 h2
  by_cases h5:kd=5
  ·have e5:(kd == 5)=true:=beq_iff_eq.2 h5
   have hmz:0=manyZ kd:=by rw [h5];rfl
   have HMZ:=Ω hmz
   clear hmz h5
   go_upto_block 3 with fail
   refine fill_any _ (by kernel_rfl) HG.out HGW.out HSCB.out Z kd nm v l At Ae thn.length els.length ct ce 0 thn els HB.out HH.out HR.out HMZ.out _ (by exact fun p a t v w' h=>HQ.out p a t v w' h) _ _ _ _ _ _ _ _ _ _ _ _ _ _ _ _ _ _ _ _ _ _ _ _ _ _ _ _ _ _ _ _ _ _ _ _ _ _ _ _ _ _ _ _ _ _ _ _ _ _ _ _ _ _ _ _ _ _ _ _ _ _ _ _ _ _ _ _ _ _ _ _ _ _ _ _ _ _ _ _ _ _ _ _ _ _ _ _ _ _ _ _ _ _ _ _ _ _ _ _ _ _ _ _ _ _ _ _ _ _ _ _ _ _ _ _ _ _ _ _ _ _ _ _ _ _ _ _ _ _ _ _ _ _ _ _ _ _ _ _ _ _ _ _ _ _ _ _ _ _ _ _ _ _ _ _ _ _ _ _ _ _ _ _ _ _ _ _ _ _ _ _ _ _ _ _ _ _ _ _ _ _ _ _ _ _ _ _ _ _ _ _ _ _ _ _ _ _ _ _ _ _ _ _ _ _ _ _ _ _ _ _ _ _ _ _ _ _ _ _ _ ?_
   intros
   rename_i Y hdn
   obtain ⟨s,Av2,At2,Ae2,cv2,ct2,ce2,hgY,hsY,hbY,hxY,hgood⟩:=hdn
   obtain ⟨y0,y1,y2,y3,y4⟩:=hbY.c5
   have hown:=HT2.out.row2 hgY (below1 Y (.cells #[.int .i64 s.kind,.string s.name,.slice Av2 s.args.length cv2,.slice At2 s.thn.length ct2,.slice Ae2 s.els.length ce2] 45)) HNO.out HOW.out
   have hbY2:=HT2.out.bs
   have hgs:=hgY.size
   have HY:=Ω (And.intro hgY (And.intro hsY (And.intro hxY hgood)))
   clear hgY hsY hbY hxY hgood
   go_wp2_with (at_builtin;refine wpList_append_lies _ rfl _ _ _ rfl (w.heap.size+1) 45 zt _ 5 96 Tryz.underlying43 ht0 ht1 ht2 ht3 rfl (by decide) (.slice Ao no co) no css.flatten rfl hown ⟨Y.heap.size,0,none⟩ 1 1 [.int .i64 s.kind,.string s.name,.slice Av2 s.args.length cv2,.slice At2 s.thn.length ct2,.slice Ae2 s.els.length ce2] rfl rfl (World.news_of_block (cs:=#[.int .i64 s.kind,.string s.name,.slice Av2 s.args.length cv2,.slice At2 s.thn.length ct2,.slice Ae2 s.els.length ce2]) (t:=45) (fr:=(0,0)) (heap_alloc_new Y _)) (by simp [Value.oneCell']) (by decide) (by unfold maxLen;omega) (by omega) (by simp;omega) (Y.heap.size+1) (by simp) ?_;intro gp cp X3 hown3 hgrow3 hat3 hlt3)
   have hfin:=HT2.out.next HY.out.1 HY.out.2.1 (Nat.le_refl _) HY.out.2.2.1 HY.out.2.2.2 (below1 Y (.cells #[.int .i64 s.kind,.string s.name,.slice Av2 s.args.length cv2,.slice At2 s.thn.length ct2,.slice Ae2 s.els.length ce2] 45)) HNO.out HOW.out hown3 hgrow3 (by rcases hat3 with h|h;exact .inl h;exact .inr (by rw [h];simp))
   exact HKK.out _ _ _ _ _ _ _ _ _ _ _ _ _ _ _ _ _ _ _ _ _ _ _ _ _ _ _ _ _ _ _ _ _ _ _ _ _ _ _ _ _ _ _ _ _ _ _ _ _ _ _ _ _ _ _ _ _ _ _ _ _ _ _ _ _ _ _ _ _ _ _ _ _ _ _ _ _ _ _ _ _ _ _ _ _ _ _ _ _ _ _ _ _ _ _ _ _ _ _ _ _ _ _ _ _ _ _ _ _ _ _ _ _ _ _ _ _ _ _ _ _ _ _ _ _ _ _ _ _ _ _ _ _ _ _ _ _ _ _ _ _ _ _ _ _ _ _ _ _ _ _ _ _ _ _ _ _ _ _ _ _ _ _ _ _ _ _ _ _ _ _ _ _ _ _ _ _ _ _ _ _ _ _ _ _ _ _ _ _ _ _ _ _ _ _ _ _ _ _ _ _ _ _ _ _ _ _ _ _ _ _ _ (by rw [List.length_append,List.length_singleton,←HNO.out]) hfin
  ·have e5:(kd == 5)=false:=beq_eq_false_iff_ne.2 h5
   by_cases h6:kd=6
   ·have e6:(kd == 6)=true:=beq_iff_eq.2 h6
    have hmz:0=manyZ kd:=by rw [h6];rfl
    have HMZ:=Ω hmz
    clear hmz h6
    go_upto_block 3 with fail
    refine fill_any _ (by kernel_rfl) HG.out HGW.out HSCB.out Z kd nm v l At Ae thn.length els.length ct ce 0 thn els HB.out HH.out HR.out HMZ.out _ (by exact fun p a t v w' h=>HQ.out p a t v w' h) _ _ _ _ _ _ _ _ _ _ _ _ _ _ _ _ _ _ _ _ _ _ _ _ _ _ _ _ _ _ _ _ _ _ _ _ _ _ _ _ _ _ _ _ _ _ _ _ _ _ _ _ _ _ _ _ _ _ _ _ _ _ _ _ _ _ _ _ _ _ _ _ _ _ _ _ _ _ _ _ _ _ _ _ _ _ _ _ _ _ _ _ _ _ _ _ _ _ _ _ _ _ _ _ _ _ _ _ _ _ _ _ _ _ _ _ _ _ _ _ _ _ _ _ _ _ _ _ _ _ _ _ _ _ _ _ _ _ _ _ _ _ _ _ _ _ _ _ _ _ _ _ _ _ _ _ _ _ _ _ _ _ _ _ _ _ _ _ _ _ _ _ _ _ _ _ _ _ _ _ _ _ _ _ _ _ _ _ _ _ _ _ _ _ _ _ _ _ _ _ _ _ _ _ _ _ _ _ _ _ _ _ _ _ _ _ _ _ _ _ _ ?_
    intros
    rename_i Y hdn
    obtain ⟨s,Av2,At2,Ae2,cv2,ct2,ce2,hgY,hsY,hbY,hxY,hgood⟩:=hdn
    obtain ⟨y0,y1,y2,y3,y4⟩:=hbY.c5
    have hown:=HT2.out.row2 hgY (below1 Y (.cells #[.int .i64 s.kind,.string s.name,.slice Av2 s.args.length cv2,.slice At2 s.thn.length ct2,.slice Ae2 s.els.length ce2] 45)) HNO.out HOW.out
    have hbY2:=HT2.out.bs
    have hgs:=hgY.size
    have HY:=Ω (And.intro hgY (And.intro hsY (And.intro hxY hgood)))
    clear hgY hsY hbY hxY hgood
    go_wp2_with (at_builtin;refine wpList_append_lies _ rfl _ _ _ rfl (w.heap.size+1) 45 zt _ 5 96 Tryz.underlying43 ht0 ht1 ht2 ht3 rfl (by decide) (.slice Ao no co) no css.flatten rfl hown ⟨Y.heap.size,0,none⟩ 1 1 [.int .i64 s.kind,.string s.name,.slice Av2 s.args.length cv2,.slice At2 s.thn.length ct2,.slice Ae2 s.els.length ce2] rfl rfl (World.news_of_block (cs:=#[.int .i64 s.kind,.string s.name,.slice Av2 s.args.length cv2,.slice At2 s.thn.length ct2,.slice Ae2 s.els.length ce2]) (t:=45) (fr:=(0,0)) (heap_alloc_new Y _)) (by simp [Value.oneCell']) (by decide) (by unfold maxLen;omega) (by omega) (by simp;omega) (Y.heap.size+1) (by simp) ?_;intro gp cp X3 hown3 hgrow3 hat3 hlt3)
    have hfin:=HT2.out.next HY.out.1 HY.out.2.1 (Nat.le_refl _) HY.out.2.2.1 HY.out.2.2.2 (below1 Y (.cells #[.int .i64 s.kind,.string s.name,.slice Av2 s.args.length cv2,.slice At2 s.thn.length ct2,.slice Ae2 s.els.length ce2] 45)) HNO.out HOW.out hown3 hgrow3 (by rcases hat3 with h|h;exact .inl h;exact .inr (by rw [h];simp))
    exact HKK.out _ _ _ _ _ _ _ _ _ _ _ _ _ _ _ _ _ _ _ _ _ _ _ _ _ _ _ _ _ _ _ _ _ _ _ _ _ _ _ _ _ _ _ _ _ _ _ _ _ _ _ _ _ _ _ _ _ _ _ _ _ _ _ _ _ _ _ _ _ _ _ _ _ _ _ _ _ _ _ _ _ _ _ _ _ _ _ _ _ _ _ _ _ _ _ _ _ _ _ _ _ _ _ _ _ _ _ _ _ _ _ _ _ _ _ _ _ _ _ _ _ _ _ _ _ _ _ _ _ _ _ _ _ _ _ _ _ _ _ _ _ _ _ _ _ _ _ _ _ _ _ _ _ _ _ _ _ _ _ _ _ _ _ _ _ _ _ _ _ _ _ _ _ _ _ _ _ _ _ _ _ _ _ _ _ _ _ _ _ _ _ _ _ _ _ _ _ _ _ _ _ _ _ _ _ _ _ _ _ _ _ _ (by rw [List.length_append,List.length_singleton,←HNO.out]) hfin
   ·have e6:(kd == 6)=false:=beq_eq_false_iff_ne.2 h6
    have hmz:1=manyZ kd:=by unfold manyZ;rw [if_neg h2,if_neg (by omega)]
    have HMZ:=Ω hmz
    clear hmz h6 h5 h2
    go_upto_block 3 with fail
    refine fill_any _ (by kernel_rfl) HG.out HGW.out HSCB.out Z kd nm v l At Ae thn.length els.length ct ce 1 thn els HB.out HH.out HR.out HMZ.out _ (by exact fun p a t v w' h=>HQ.out p a t v w' h) _ _ _ _ _ _ _ _ _ _ _ _ _ _ _ _ _ _ _ _ _ _ _ _ _ _ _ _ _ _ _ _ _ _ _ _ _ _ _ _ _ _ _ _ _ _ _ _ _ _ _ _ _ _ _ _ _ _ _ _ _ _ _ _ _ _ _ _ _ _ _ _ _ _ _ _ _ _ _ _ _ _ _ _ _ _ _ _ _ _ _ _ _ _ _ _ _ _ _ _ _ _ _ _ _ _ _ _ _ _ _ _ _ _ _ _ _ _ _ _ _ _ _ _ _ _ _ _ _ _ _ _ _ _ _ _ _ _ _ _ _ _ _ _ _ _ _ _ _ _ _ _ _ _ _ _ _ _ _ _ _ _ _ _ _ _ _ _ _ _ _ _ _ _ _ _ _ _ _ _ _ _ _ _ _ _ _ _ _ _ _ _ _ _ _ _ _ _ _ _ _ _ _ _ _ _ _ _ _ _ _ _ _ _ _ _ _ _ _ _ _ ?_
    intros
    rename_i Y hdn
    obtain ⟨s,Av2,At2,Ae2,cv2,ct2,ce2,hgY,hsY,hbY,hxY,hgood⟩:=hdn
    obtain ⟨y0,y1,y2,y3,y4⟩:=hbY.c5
    have hown:=HT2.out.row2 hgY (below1 Y (.cells #[.int .i64 s.kind,.string s.name,.slice Av2 s.args.length cv2,.slice At2 s.thn.length ct2,.slice Ae2 s.els.length ce2] 45)) HNO.out HOW.out
    have hbY2:=HT2.out.bs
    have hgs:=hgY.size
    have HY:=Ω (And.intro hgY (And.intro hsY (And.intro hxY hgood)))
    clear hgY hsY hbY hxY hgood
    go_wp2_with (at_builtin;refine wpList_append_lies _ rfl _ _ _ rfl (w.heap.size+1) 45 zt _ 5 96 Tryz.underlying43 ht0 ht1 ht2 ht3 rfl (by decide) (.slice Ao no co) no css.flatten rfl hown ⟨Y.heap.size,0,none⟩ 1 1 [.int .i64 s.kind,.string s.name,.slice Av2 s.args.length cv2,.slice At2 s.thn.length ct2,.slice Ae2 s.els.length ce2] rfl rfl (World.news_of_block (cs:=#[.int .i64 s.kind,.string s.name,.slice Av2 s.args.length cv2,.slice At2 s.thn.length ct2,.slice Ae2 s.els.length ce2]) (t:=45) (fr:=(0,0)) (heap_alloc_new Y _)) (by simp [Value.oneCell']) (by decide) (by unfold maxLen;omega) (by omega) (by simp;omega) (Y.heap.size+1) (by simp) ?_;intro gp cp X3 hown3 hgrow3 hat3 hlt3)
    have hfin:=HT2.out.next HY.out.1 HY.out.2.1 (Nat.le_refl _) HY.out.2.2.1 HY.out.2.2.2 (below1 Y (.cells #[.int .i64 s.kind,.string s.name,.slice Av2 s.args.length cv2,.slice At2 s.thn.length ct2,.slice Ae2 s.els.length ce2] 45)) HNO.out HOW.out hown3 hgrow3 (by rcases hat3 with h|h;exact .inl h;exact .inr (by rw [h];simp))
    exact HKK.out _ _ _ _ _ _ _ _ _ _ _ _ _ _ _ _ _ _ _ _ _ _ _ _ _ _ _ _ _ _ _ _ _ _ _ _ _ _ _ _ _ _ _ _ _ _ _ _ _ _ _ _ _ _ _ _ _ _ _ _ _ _ _ _ _ _ _ _ _ _ _ _ _ _ _ _ _ _ _ _ _ _ _ _ _ _ _ _ _ _ _ _ _ _ _ _ _ _ _ _ _ _ _ _ _ _ _ _ _ _ _ _ _ _ _ _ _ _ _ _ _ _ _ _ _ _ _ _ _ _ _ _ _ _ _ _ _ _ _ _ _ _ _ _ _ _ _ _ _ _ _ _ _ _ _ _ _ _ _ _ _ _ _ _ _ _ _ _ _ _ _ _ _ _ _ _ _ _ _ _ _ _ _ _ _ _ _ _ _ _ _ _ _ _ _ _ _ _ _ _ _ _ _ _ _ _ _ _ _ _ _ _ (by rw [List.length_append,List.length_singleton,←HNO.out]) hfin
section
set_option maxRecDepth 100000
set_option maxHeartbeats 4000000
theorem stmts_step (fr:Bool) (d:Nat) (hd:1≤d) (hd2:d≤1000) (hS:2≤d→StmtsAt fr (d-1)) (hX3:ExprAt fr 3) (hX4:ExprAt fr 4) (hC:CallAt fr 3):StmtsAt fr d:=by
 intro w sb c Av Aa Af cv ca cf loop hs hc hk
 have HG:=Ω (stmts_ctx (loop:=loop) hd hd2 hS hX3 hX4 hC hs hc hk)
 have HSB:=Ω hs.lt
 have HSS:=Ω hs
 obtain ⟨nv,hnv⟩:∃n,n=c.vars.length:=⟨_,rfl⟩
 obtain ⟨na,hna⟩:∃n,n=c.arrs.length:=⟨_,rfl⟩
 obtain ⟨nf,hnf⟩:∃n,n=c.funs.length:=⟨_,rfl⟩
 rw [←hnv,←hna,←hnf] at HG ⊢
 clear hs hc hk hX3 hX4 hC hS hnv hna hnf
 go_enter Tryz.func26,Tryz.ntmps26
 go_upto_region 2 with fail
 refine wp_world ?_
 intro W hW
 have hst:BoxT w sb W (w.heap.size+1) w.heap.size 61 #[.slice Av nv cv,.slice Aa na ca,.slice Af nf cf,.bool fr,.bool loop] (d+4) (GoodS c d loop) (.slice none 0 0) []:=by
  rw [←hW]
  exact ⟨grown_below' (below1 _ _),HSS.out.below (below1 _ _),Blk.new _ _ _,Nat.le_refl _,Nat.lt_succ_self _,by simp,⟨[],OwnL.nil_ _ _ _ _ _⟩,(fun _ h=>by cases h),HSB.out⟩
 have HT0:=Ω hst
 clear hW hst
 go_upto_region 3 with (go_at_call 21;refine (next_any _ sb 5 (by omega) HT0.out.src).mono ?_;rintro e w0 ⟨⟨k0,hk0,rfl⟩,hs1,hg1⟩;have HT1:=Ω (HT0.out.step hg1 hs1);clear hs1 hg1)
 go_wp2
 go_loopw [7,9] (fun v i wr=>∃k:Nat,k≤k0∧i=.int .i64 k∧∃lo:List LStmt,lo.length=k∧BoxT w sb wr (w.heap.size+1) w.heap.size 61 #[.slice Av nv cv,.slice Aa na ca,.slice Af nf cf,.bool fr,.bool loop] (d+4) (GoodS c d loop) v lo) (fun _ i _=>k0-(intOf i).toNat)
 case atStart=>exact ⟨0,by omega,rfl,[],rfl,HT1.out⟩
 case round=>
  obtain ⟨k,hk,rfl,lo,hlo,hb⟩:=hrel
  obtain ⟨css0,hcs0⟩:=hb.own
  obtain ⟨Ao,co,hv⟩:=own_form hcs0.row
  clear hcs0 css0
  obtain ⟨no,hno⟩:∃n,n=lo.length:=⟨_,rfl⟩
  rw [←hno] at hv
  subst hv
  have HNO:=Ω hno
  have hnk:no=k:=hno.trans hlo
  have HT:=Ω hb
  clear hlo hno hb
  by_cases hlt:k<k0
  ·have d1:decide ((k:Int)<(k0:Int))=true:=dT (by omega)
   have hno4:no≤4:=by omega
   have HN4:=Ω hno4
   have HNK:=Ω hnk
   clear hno4 hnk
   go_upto_block 1 with fail
   refine round_any _ (by kernel_rfl) HG.out wr lo Ao no co HT.out HNO.out HN4.out _ (by intro p a t v w' h;cases t <;> exact h) _ _ _ _ _ _ _ _ _ _ _ _ _ _ _ _ _ _ _ _ _ _ _ _ _ _ _ _ _ _ _ _ _ _ _ _ _ _ _ _ _ _ _ _ _ _ _ _ _ _ _ _ _ _ _ _ _ _ _ _ _ _ _ _ _ _ _ _ _ _ _ _ _ _ _ _ _ _ _ _ _ _ _ _ _ _ _ _ _ _ _ _ _ _ _ _ _ _ _ _ _ _ _ _ _ _ _ _ _ _ _ _ _ _ _ _ _ _ _ _ _ _ _ _ _ _ _ _ _ _ _ _ _ _ _ _ _ _ _ _ _ _ _ _ _ _ _ _ _ _ _ _ _ _ _ _ _ _ _ _ _ _ _ _ _ _ _ _ _ _ _ _ _ _ _ _ _ _ _ _ _ _ _ _ _ _ _ _ _ _ _ _ _ _ _ _ _ _ _ _ _ _ _ _ _ _ _ _ _ _ _ _ _ _ _ _ _ _ _ _ _ _ ?_
   intros
   rename_i Ap cp l2 w' hl2 hb2
   have HL2:=Ω hl2
   have HB2:=Ω hb2
   clear hl2 hb2
   go_wp2
   go_roundw
   case rel=>exact ⟨k+1,by omega,by go_num,l2,by rw [HL2.out,HNK.out],HB2.out⟩
   case measure=>simp [intOf];omega
  ·have hkn:k=k0:=by omega
   have d1:decide ((k:Int)<(k0:Int))=false:=dF (by omega)
   go_wp2
   go_ret
   obtain ⟨css,hc⟩:=HT.out.own
   have hs:=hc.slr (mono_stmt (d+4))
   have up:∀b,(w.heap.size+1≤b∧b<wr.heap.size)→fresh w wr b:=fun b hb=>⟨by omega,hb.2⟩
   have hh:=HNO.out
   rw [hh] at hs ⊢
   exact ⟨⟨lo,Ao,co,rfl,HT.out.made,by omega,SlR.imp hs up (fun _ _=>rfl) fun _ _ _ q=>q.imp up (fun _ _=>rfl) _⟩,HT.out.src,HT.out.gr⟩
end
theorem gen_all (fr:Bool):∀m:Nat,1≤m→m≤1000→ExprAt fr m∧(2≤m→CallAt fr m)
 |0,h,_=>absurd h (by decide)
 |m+1,_,h=>by
  have hX:2≤m+1→ExprAt fr m:=fun h2=>(gen_all fr m (by omega) (by omega)).1
  have hC:2≤m+1→CallAt fr (m+1):=fun h2=>call_step fr (m+1) h2 h (hX h2)
  exact ⟨expr_step fr (m+1) (by omega) h hX hC,hC⟩
theorem stmts_all (fr:Bool):∀d:Nat,1≤d→d≤1000→StmtsAt fr d
 |0,h,_=>absurd h (by decide)
 |d+1,_,h=>stmts_step fr (d+1) (by omega) h (fun h2=>stmts_all fr d (by omega) (by omega)) (gen_all fr 3 (by decide) (by decide)).1 (gen_all fr 4 (by decide) (by decide)).1 ((gen_all fr 3 (by decide) (by decide)).2 (by decide))
end Go.Proofs.YtmignlclfbaifaaGreat
