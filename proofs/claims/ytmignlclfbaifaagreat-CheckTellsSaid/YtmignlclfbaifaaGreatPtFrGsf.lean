/- The forms of the generator's statements, each as a lemma of its own: what is written into a statement's box. Printed by wip/gen_trgsf.py. -/
import Derived.Test.YtmignlclfbaifaaGreatPtFrA
namespace Go.Proofs.YtmignlclfbaifaaGreat
open Go.RowKit
def thenOf (k:Nat):Code→Option Code
 |.seq a b=>(thenOf k a).or (thenOf k b)
 |.cond (.tmp s) a b=>if s=k then some a else (thenOf k a).or (thenOf k b)
 |.cond _ a b=>(thenOf k a).or (thenOf k b)
 |.block _ b=>thenOf k b
 |.loop b=>thenOf k b
 |.rangeFunc _ _ a b=>(thenOf k a).or (thenOf k b)
 |.scope b=>thenOf k b
 |_=>none
def blkOf (k:Nat):Code→Option Code
 |.seq a b=>(blkOf k a).or (blkOf k b)
 |.cond _ a b=>(blkOf k a).or (blkOf k b)
 |.block i b=>if i=k then some b else blkOf k b
 |.loop b=>blkOf k b
 |.rangeFunc _ _ a b=>(blkOf k a).or (blkOf k b)
 |.scope b=>blkOf k b
 |_=>none
theorem field_arr2 (s:ByteArray) (sz:Int) (w:World):Sem.run Tryz.prog (Instr.field 53 (.agg #[.string s,.int .i64 sz]) 0) w=.ok (.string s) w:=by kernel_rfl
theorem call_kind {x:LExpr} {a b:Int} {s:ByteArray} {v va:Value} (h:Ending.returned (.agg #[.int .i64 x.kind,.int .i64 x.op,.int .i64 x.n,.string x.name,va])=.returned (.agg #[.int .i64 5,.int .i64 a,.int .i64 b,.string s,v])):x.kind=5:=by
 injection h with h;injection h with h;injection h with h;injection h with h _;injection h with _ h
structure GCtx (fr:Bool) (w:World) (sb:Nat) (c:Scp) (Av Aa Af:Option Addr) (nv na nf cv ca cf:Nat) (loop:Bool) (d:Nat):Prop where
 iX:∀X,w.grownBy X (some sb)→SrcAt X sb→Calls Tryz.prog 24 #[.agg #[.slice Av nv cv,.slice Aa na ca,.slice Af nf cf,.bool fr,.bool loop],.pointer (some ⟨sb,0,none⟩),.int .i64 3] X (ExprPost X sb c 3)
 iY:∀X,w.grownBy X (some sb)→SrcAt X sb→Calls Tryz.prog 24 #[.agg #[.slice Av nv cv,.slice Aa na ca,.slice Af nf cf,.bool fr,.bool loop],.pointer (some ⟨sb,0,none⟩),.int .i64 4] X (ExprPost X sb c 4)
 cl:∀X,w.grownBy X (some sb)→SrcAt X sb→Calls Tryz.prog 41 #[.agg #[.slice Av nv cv,.slice Aa na ca,.slice Af nf cf,.bool fr,.bool loop],.pointer (some ⟨sb,0,none⟩),.int .i64 3] X fun e w'=>ExprPost X sb c 3 e w'∧IsCall e
 sm:2≤d→∀(lp:Bool) X,w.grownBy X (some sb)→SrcAt X sb→Calls Tryz.prog 26 #[.agg #[.slice Av nv cv,.slice Aa na ca,.slice Af nf cf,.bool fr,.bool lp],.pointer (some ⟨sb,0,none⟩),.int .i64 ((d:Int)-1)] X (StmtsPost X sb c (d-1) lp)
 nm:∀X,w.grownBy X (some sb)→SrcAt X sb→Calls Tryz.prog 40 #[.agg #[.slice Av nv cv,.slice Aa na ca,.slice Af nf cf,.bool fr,.bool loop],.pointer (some ⟨sb,0,none⟩),.slice Av nv cv] X fun e w'=>(∃s,okN c s∧e=.returned (.string s))∧SrcAt w' sb∧X.grownBy w' (some sb)
 ar:∀X,w.grownBy X (some sb)→SrcAt X sb→Calls Tryz.prog 25 #[.agg #[.slice Av nv cv,.slice Aa na ca,.slice Af nf cf,.bool fr,.bool loop],.pointer (some ⟨sb,0,none⟩)] X fun e w'=>(∃s sz,okN c s∧e=.returned (.agg #[.string s,.int .i64 sz]))∧SrcAt w' sb∧X.grownBy w' (some sb)
 ok:ScOk c
 sb:sb<w.heap.size
 hd:1≤d
 hd2:d≤1000
 lv:nv≤400
 la:na≤400
 lf:nf≤400
theorem stmts_ctx {fr:Bool} {d:Nat} (hd:1≤d) (hd2:d≤1000) (hS:2≤d→StmtsAt fr (d-1)) (hX3:ExprAt fr 3) (hX4:ExprAt fr 4) (hC:CallAt fr 3) {w:World} {sb:Nat} {c:Scp} {Av Aa Af:Option Addr} {cv ca cf:Nat} {loop:Bool} (hs:SrcAt w sb) (hc:ScAt w sb c Av Aa Af cv ca cf) (hk:ScOk c) :
  GCtx fr w sb c Av Aa Af c.vars.length c.arrs.length c.funs.length cv ca cf loop d:=
 ⟨fun X hg hsx=>hX3 X sb c Av Aa Af cv ca cf loop hsx (hc.grown hg) hk,
  fun X hg hsx=>hX4 X sb c Av Aa Af cv ca cf loop hsx (hc.grown hg) hk,
  fun X hg hsx=>hC X sb c Av Aa Af cv ca cf loop hsx (hc.grown hg) hk,
  fun h2 lp X hg hsx=>by
  have h:=hS h2 X sb c Av Aa Af cv ca cf lp hsx (hc.grown hg) hk
  rw [show ((d-1:Nat):Int)=(d:Int)-1 by omega] at h
  exact h,
  fun X hg hsx=>gname_any (c:=c) fr hsx c.vars Av cv (hc.grown hg).vars (.slice Av _ cv) (.slice Aa _ ca) (.slice Af _ cf) (.bool loop),
  fun X hg hsx=>garray_any fr hsx (hc.grown hg) (.slice Av _ cv) (.slice Af _ cf) (.bool loop),
  hk,hs.lt,hd,hd2,hk.lv,hk.la,hk.lf⟩
set_option maxRecDepth 100000 in
set_option maxHeartbeats 8000000 in
theorem form_set (cc:Code) (hc:(Tryz.f26.body.bind (thenOf 61))=some cc) {fr:Bool} {w:World} {sb:Nat} {c:Scp} {Av Aa Af:Option Addr} {nv na nf cv ca cf:Nat} {loop:Bool} {d:Nat} (G:GCtx fr w sb c Av Aa Af nv na nf cv ca cf loop d) {w1:World} (hgw:w.grownBy w1 (some sb)) (hsc:Blk w1 w.heap.size 61 #[.slice Av nv cv,.slice Aa na ca,.slice Af nf cf,.bool fr,.bool loop]) (Y:World)
  (hb:BoxS w1 sb Y (w1.heap.size+1) w1.heap.size 45 #[.int .i64 8,.string ⟨#[]⟩,.slice none 0 0,.slice none 0 0,.slice none 0 0] (d+4) (mE c 4) (.slice none 0 0) []) 
  (Q:Exit→Act→World→Prop) (hQ:∀p (a:Act) t (v:Value) (w':World),Q (Exit.panic p) (a.put t v) w'→Q (Exit.panic p) a w') (aA aB aC aD aE aF aG aH aI aJ aK aL aM aN aO aP aQ aR aS aT aU aV aW aX aY aZ bA bB bC bD bE bF bG bH bI bJ bK bL bM bN bO bP bQ bR bS bT bU bV bW bX bY bZ cA cB cC cD cE cF cG cH cI cJ cK cL cM cN cO cP cQ cR cS cT cU cV cW cX cY cZ dA dB dC dD dE dG dH dI dJ dK dL dM dN dO dP dQ dR dS dU dV dW dX dY dZ eA eB eC eD eE eF eG eH eI eJ eK eL eM eN eO eP eQ eR eS eT eU eV eW eX eY eZ fA fB fC fD fE fF fG fH fI fJ fK fL fM fN fO fP fQ fR fS fT fU fV fW fX fY fZ gA gB gC gD gE gF gG gH gI gJ gK gM gN gP gQ gR gT gU gV gW gX gY gZ hA hB hD hE hF hG hH hI hJ hL hM hN hO hP hR hT hU hV hW hX hY hZ iA iB iC iD iE iF iG iH iI iJ iK iL iM iN iO iP iQ iR iS iT iU iV iW:Value)
  (hK:∀(jA jB jC jD jE jF jG:Value) (w':World),MidS w1 sb w' w1.heap.size c d loop→Q .normal { tmps:=#[aA,.pointer (some ⟨sb,0,none⟩),.int .i64 (d:Int),.pointer (some ⟨w.heap.size,0,none⟩),aB,aC,aD,aE,aF,aG,aH,.pointer (some ⟨w1.heap.size,0,none⟩),aI,aJ,aK,aL,aM,aN,aO,aP,aQ,aR,aS,aT,aU,aV,aW,aX,aY,aZ,bA,bB,bC,bD,bE,bF,bG,bH,bI,bJ,bK,bL,bM,bN,bO,bP,bQ,bR,bS,bT,bU,bV,bW,bX,bY,bZ,cA,cB,cC,cD,cE,cF,cG,cH,cI,cJ,cK,jA,jB,jC,jD,jE,jF,jG,cS,cT,cU,cV,cW,cX,cY,cZ,dA,dB,dC,dD,dE,dG,dH,dI,dJ,dK,dL,dM,dN,dO,dP,dQ,dR,dS,dU,dV,dW,dX,dY,dZ,eA,eB,eC,eD,eE,eF,eG,eH,eI,eJ,eK,eL,eM,eN,eO,eP,eQ,eR,eS,eT,eU,eV,eW,eX,eY,eZ,fA,fB,fC,fD,fE,fF,fG,fH,fI,fJ,fK,fL,fM,fN,fO,fP,fQ,fR,fS,fT,fU,fV,fW,fX,fY,fZ,gA,gB,gC,gD,gE,gF,gG,gH,gI,gJ,gK,gM,gN,gP,gQ,gR,gT,gU,gV,gW,gX,gY,gZ,hA,hB,hD,hE,hF,hG,hH,hI,hJ,hL,hM,hN,hO,hP,hR,hT,hU,hV,hW,hX,hY,hZ,iA,iB,iC,iD,iE,iF,iG,iH,iI,iJ,iK,iL,iM,iN,iO,iP,iQ,iR,iS,iT,iU,iV,iW],defers:=[] } w') :
  cc.wp Tryz.prog Q { tmps:=#[aA,.pointer (some ⟨sb,0,none⟩),.int .i64 (d:Int),.pointer (some ⟨w.heap.size,0,none⟩),aB,aC,aD,aE,aF,aG,aH,.pointer (some ⟨w1.heap.size,0,none⟩),aI,aJ,aK,aL,aM,aN,aO,aP,aQ,aR,aS,aT,aU,aV,aW,aX,aY,aZ,bA,bB,bC,bD,bE,bF,bG,bH,bI,bJ,bK,bL,bM,bN,bO,bP,bQ,bR,bS,bT,bU,bV,bW,bX,bY,bZ,cA,cB,cC,cD,cE,cF,cG,cH,cI,cJ,cK,cL,cM,cN,cO,cP,cQ,cR,cS,cT,cU,cV,cW,cX,cY,cZ,dA,dB,dC,dD,dE,dG,dH,dI,dJ,dK,dL,dM,dN,dO,dP,dQ,dR,dS,dU,dV,dW,dX,dY,dZ,eA,eB,eC,eD,eE,eF,eG,eH,eI,eJ,eK,eL,eM,eN,eO,eP,eQ,eR,eS,eT,eU,eV,eW,eX,eY,eZ,fA,fB,fC,fD,fE,fF,fG,fH,fI,fJ,fK,fL,fM,fN,fO,fP,fQ,fR,fS,fT,fU,fV,fW,fX,fY,fZ,gA,gB,gC,gD,gE,gF,gG,gH,gI,gJ,gK,gM,gN,gP,gQ,gR,gT,gU,gV,gW,gX,gY,gZ,hA,hB,hD,hE,hF,hG,hH,hI,hJ,hL,hM,hN,hO,hP,hR,hT,hU,hV,hW,hX,hY,hZ,iA,iB,iC,iD,iE,iF,iG,iH,iI,iJ,iK,iL,iM,iN,iO,iP,iQ,iR,iS,iT,iU,iV,iW],defers:=[] } Y:=by
 have HKK:=Ω hK
 have HQ:=Ω hQ
 have hwx:w.heap.size<w1.heap.size:=hsc.lt
 have hwn:w.heap.size≠w1.heap.size:=Nat.ne_of_lt hwx
 have hwm:w1.heap.size≠w.heap.size:=Nat.ne_of_gt hwx
 have hcc:Tryz.f26.body.bind (thenOf 61)=some cc:=hc
 simp only [Tryz.f26,thenOf,Option.bind_some,Nat.reduceEqDiff,↓reduceIte,Option.none_or,Option.or_none,Option.some.injEq] at hcc
 subst hcc
 have HBX:=Ω hb
 have HSCB:=Ω hsc
 have HGW:=Ω hgw
 have HG:=Ω G
 have HNE:Hid (sb≠w.heap.size):=Ω (by have:=G.sb;omega)
 have hd:=G.hd
 have hd2:=G.hd2
 have HSB:=Ω G.sb
 have HOK:=Ω G.ok
 obtain ⟨zi,hj0,hj1,hj2,hj3⟩:=info_parts info_expr
 have HHX3:Hid (∀X,w1.grownBy X (some sb)→SrcAt X sb→Calls Tryz.prog 24 #[.agg #[.slice Av nv cv,.slice Aa na ca,.slice Af nf cf,.bool fr,.bool loop],.pointer (some ⟨sb,0,none⟩),.int .i64 3] X (ExprPost X sb c 3)):=Ω (fun X hg hs=>HG.out.iX X (HGW.out.trans hg) hs)
 have HHC3:Hid (∀X,w1.grownBy X (some sb)→SrcAt X sb→Calls Tryz.prog 41 #[.agg #[.slice Av nv cv,.slice Aa na ca,.slice Af nf cf,.bool fr,.bool loop],.pointer (some ⟨sb,0,none⟩),.int .i64 3] X fun e w'=>ExprPost X sb c 3 e w'∧IsCall e):=Ω (fun X hg hs=>HG.out.cl X (HGW.out.trans hg) hs)
 clear hc hK hQ hb hsc hgw G
 have HNM:=Ω HG.out.nm
 have HB1:Hid (BoxS w1 sb (Y.setCell ⟨w1.heap.size,0,none⟩ (.int .i64 1)) (w1.heap.size+1) w1.heap.size 45 #[.int .i64 1,.string ⟨#[]⟩,.slice none 0 0,.slice none 0 0,.slice none 0 0] (d+4) (mE c 4) (.slice none 0 0) []):=Ω (HBX.out.set 0 (.int .i64 1))
 obtain ⟨ab0,ab1,ab2,ab3,ab4⟩:=(HBX.out.sc HSCB.out HNE.out).c5
 obtain ⟨ax0,ax1,ax2,ax3,ax4⟩:=HBX.out.blk.c5
 obtain ⟨az0,az1,az2,az3,az4⟩:=HBX.out.blk.z5
 have alt:w1.heap.size<Y.heap.size:=HBX.out.bs
 go_wp2_with (go_at_call 40;refine (HNM.out _ (HGW.out.trans HB1.out.gr) HB1.out.src).mono ?_;rintro e X2 ⟨⟨s,hsm,rfl⟩,hs2,hg2⟩;have HB2:=Ω (HB1.out.step hg2 hs2);have HM:=Ω hsm;clear hs2 hg2 hsm;obtain ⟨cb0,cb1,cb2,cb3,cb4⟩:=(HB2.out.sc HSCB.out HNE.out).c5;obtain ⟨cx0,cx1,cx2,cx3,cx4⟩:=HB2.out.blk.c5;obtain ⟨cz0,cz1,cz2,cz3,cz4⟩:=HB2.out.blk.z5;have clt:w1.heap.size<X2.heap.size:=HB2.out.bs)
 exact HKK.out _ _ _ _ _ _ _ _ (⟨1,s,_,_,_,[],[],[],HB2.out.set 1 (.string s),half_set hd HOK.out HM.out,.inl ⟨rfl,rfl,rfl,rfl⟩⟩)
set_option maxRecDepth 100000 in
set_option maxHeartbeats 8000000 in
theorem form_store (cc:Code) (hc:(Tryz.f26.body.bind (thenOf 74))=some cc) {fr:Bool} {w:World} {sb:Nat} {c:Scp} {Av Aa Af:Option Addr} {nv na nf cv ca cf:Nat} {loop:Bool} {d:Nat} (G:GCtx fr w sb c Av Aa Af nv na nf cv ca cf loop d) {w1:World} (hgw:w.grownBy w1 (some sb)) (hsc:Blk w1 w.heap.size 61 #[.slice Av nv cv,.slice Aa na ca,.slice Af nf cf,.bool fr,.bool loop]) (Y:World)
  (hb:BoxS w1 sb Y (w1.heap.size+1) w1.heap.size 45 #[.int .i64 8,.string ⟨#[]⟩,.slice none 0 0,.slice none 0 0,.slice none 0 0] (d+4) (mE c 4) (.slice none 0 0) []) 
  (Q:Exit→Act→World→Prop) (hQ:∀p (a:Act) t (v:Value) (w':World),Q (Exit.panic p) (a.put t v) w'→Q (Exit.panic p) a w') (aA aB aC aD aE aF aG aH aI aJ aK aL aM aN aO aP aQ aR aS aT aU aV aW aX aY aZ bA bB bC bD bE bF bG bH bI bJ bK bL bM bN bO bP bQ bR bS bT bU bV bW bX bY bZ cA cB cC cD cE cF cG cH cI cJ cK cL cM cN cO cP cQ cR cS cT cU cV cW cX cY cZ dA dB dC dD dE dG dH dI dJ dK dL dM dN dO dP dQ dR dS dU dV dW dX dY dZ eA eB eC eD eE eF eG eH eI eJ eK eL eM eN eO eP eQ eR eS eT eU eV eW eX eY eZ fA fB fC fD fE fF fG fH fI fJ fK fL fM fN fO fP fQ fR fS fT fU fV fW fX fY fZ gA gB gC gD gE gF gG gH gI gJ gK gM gN gP gQ gR gT gU gV gW gX gY gZ hA hB hD hE hF hG hH hI hJ hL hM hN hO hP hR hT hU hV hW hX hY hZ iA iB iC iD iE iF iG iH iI iJ iK iL iM iN iO iP iQ iR iS iT iU iV iW:Value)
  (hK:∀(jH jI jJ jK jL jM jN jO jP jQ jR jS jT jU:Value) (w':World),MidS w1 sb w' w1.heap.size c d loop→Q .normal { tmps:=#[aA,.pointer (some ⟨sb,0,none⟩),.int .i64 (d:Int),.pointer (some ⟨w.heap.size,0,none⟩),aB,aC,aD,aE,aF,aG,aH,.pointer (some ⟨w1.heap.size,0,none⟩),aI,aJ,aK,aL,aM,aN,aO,aP,aQ,aR,aS,aT,aU,aV,aW,aX,aY,aZ,bA,bB,bC,bD,bE,bF,bG,bH,bI,bJ,bK,bL,bM,bN,bO,bP,bQ,bR,bS,bT,bU,bV,bW,bX,bY,bZ,cA,cB,cC,cD,cE,cF,cG,cH,cI,cJ,cK,cL,cM,cN,cO,cP,cQ,cR,cS,cT,cU,cV,cW,cX,jH,jI,jJ,jK,jL,jM,jN,jO,jP,jQ,jR,jS,jT,jU,dN,dO,dP,dQ,dR,dS,dU,dV,dW,dX,dY,dZ,eA,eB,eC,eD,eE,eF,eG,eH,eI,eJ,eK,eL,eM,eN,eO,eP,eQ,eR,eS,eT,eU,eV,eW,eX,eY,eZ,fA,fB,fC,fD,fE,fF,fG,fH,fI,fJ,fK,fL,fM,fN,fO,fP,fQ,fR,fS,fT,fU,fV,fW,fX,fY,fZ,gA,gB,gC,gD,gE,gF,gG,gH,gI,gJ,gK,gM,gN,gP,gQ,gR,gT,gU,gV,gW,gX,gY,gZ,hA,hB,hD,hE,hF,hG,hH,hI,hJ,hL,hM,hN,hO,hP,hR,hT,hU,hV,hW,hX,hY,hZ,iA,iB,iC,iD,iE,iF,iG,iH,iI,iJ,iK,iL,iM,iN,iO,iP,iQ,iR,iS,iT,iU,iV,iW],defers:=[] } w') :
  cc.wp Tryz.prog Q { tmps:=#[aA,.pointer (some ⟨sb,0,none⟩),.int .i64 (d:Int),.pointer (some ⟨w.heap.size,0,none⟩),aB,aC,aD,aE,aF,aG,aH,.pointer (some ⟨w1.heap.size,0,none⟩),aI,aJ,aK,aL,aM,aN,aO,aP,aQ,aR,aS,aT,aU,aV,aW,aX,aY,aZ,bA,bB,bC,bD,bE,bF,bG,bH,bI,bJ,bK,bL,bM,bN,bO,bP,bQ,bR,bS,bT,bU,bV,bW,bX,bY,bZ,cA,cB,cC,cD,cE,cF,cG,cH,cI,cJ,cK,cL,cM,cN,cO,cP,cQ,cR,cS,cT,cU,cV,cW,cX,cY,cZ,dA,dB,dC,dD,dE,dG,dH,dI,dJ,dK,dL,dM,dN,dO,dP,dQ,dR,dS,dU,dV,dW,dX,dY,dZ,eA,eB,eC,eD,eE,eF,eG,eH,eI,eJ,eK,eL,eM,eN,eO,eP,eQ,eR,eS,eT,eU,eV,eW,eX,eY,eZ,fA,fB,fC,fD,fE,fF,fG,fH,fI,fJ,fK,fL,fM,fN,fO,fP,fQ,fR,fS,fT,fU,fV,fW,fX,fY,fZ,gA,gB,gC,gD,gE,gF,gG,gH,gI,gJ,gK,gM,gN,gP,gQ,gR,gT,gU,gV,gW,gX,gY,gZ,hA,hB,hD,hE,hF,hG,hH,hI,hJ,hL,hM,hN,hO,hP,hR,hT,hU,hV,hW,hX,hY,hZ,iA,iB,iC,iD,iE,iF,iG,iH,iI,iJ,iK,iL,iM,iN,iO,iP,iQ,iR,iS,iT,iU,iV,iW],defers:=[] } Y:=by
 have HKK:=Ω hK
 have HQ:=Ω hQ
 have hwx:w.heap.size<w1.heap.size:=hsc.lt
 have hwn:w.heap.size≠w1.heap.size:=Nat.ne_of_lt hwx
 have hwm:w1.heap.size≠w.heap.size:=Nat.ne_of_gt hwx
 have hcc:Tryz.f26.body.bind (thenOf 74)=some cc:=hc
 simp only [Tryz.f26,thenOf,Option.bind_some,Nat.reduceEqDiff,↓reduceIte,Option.none_or,Option.or_none,Option.some.injEq] at hcc
 subst hcc
 have HBX:=Ω hb
 have HSCB:=Ω hsc
 have HGW:=Ω hgw
 have HG:=Ω G
 have HNE:Hid (sb≠w.heap.size):=Ω (by have:=G.sb;omega)
 have hd:=G.hd
 have hd2:=G.hd2
 have HSB:=Ω G.sb
 have HOK:=Ω G.ok
 obtain ⟨zi,hj0,hj1,hj2,hj3⟩:=info_parts info_expr
 have HHX3:Hid (∀X,w1.grownBy X (some sb)→SrcAt X sb→Calls Tryz.prog 24 #[.agg #[.slice Av nv cv,.slice Aa na ca,.slice Af nf cf,.bool fr,.bool loop],.pointer (some ⟨sb,0,none⟩),.int .i64 3] X (ExprPost X sb c 3)):=Ω (fun X hg hs=>HG.out.iX X (HGW.out.trans hg) hs)
 have HHC3:Hid (∀X,w1.grownBy X (some sb)→SrcAt X sb→Calls Tryz.prog 41 #[.agg #[.slice Av nv cv,.slice Aa na ca,.slice Af nf cf,.bool fr,.bool loop],.pointer (some ⟨sb,0,none⟩),.int .i64 3] X fun e w'=>ExprPost X sb c 3 e w'∧IsCall e):=Ω (fun X hg hs=>HG.out.cl X (HGW.out.trans hg) hs)
 clear hc hK hQ hb hsc hgw G
 have HAM:=Ω HG.out.ar
 have HB1:Hid (BoxS w1 sb (Y.setCell ⟨w1.heap.size,0,none⟩ (.int .i64 2)) (w1.heap.size+1) w1.heap.size 45 #[.int .i64 2,.string ⟨#[]⟩,.slice none 0 0,.slice none 0 0,.slice none 0 0] (d+4) (mE c 4) (.slice none 0 0) []):=Ω (HBX.out.set 0 (.int .i64 2))
 obtain ⟨ab0,ab1,ab2,ab3,ab4⟩:=(HBX.out.sc HSCB.out HNE.out).c5
 obtain ⟨ax0,ax1,ax2,ax3,ax4⟩:=HBX.out.blk.c5
 obtain ⟨az0,az1,az2,az3,az4⟩:=HBX.out.blk.z5
 have alt:w1.heap.size<Y.heap.size:=HBX.out.bs
 go_upto_region 19 with (go_at_call 25;refine (HAM.out _ (HGW.out.trans HB1.out.gr) HB1.out.src).mono ?_;rintro e X2 ⟨⟨s,sz,hsm,rfl⟩,hs2,hg2⟩;have HB2:=Ω (HB1.out.step hg2 hs2);have HM:=Ω hsm;clear hs2 hg2 hsm;have hfld:=field_arr2 s sz;obtain ⟨cb0,cb1,cb2,cb3,cb4⟩:=(HB2.out.sc HSCB.out HNE.out).c5;obtain ⟨cx0,cx1,cx2,cx3,cx4⟩:=HB2.out.blk.c5;obtain ⟨cz0,cz1,cz2,cz3,cz4⟩:=HB2.out.blk.z5;have clt:w1.heap.size<X2.heap.size:=HB2.out.bs)
 refine wp_world ?_
 intro Xa hXa
 have hbq:BoxS w1 sb Xa (w1.heap.size+1) w1.heap.size 45 #[.int .i64 2,.string s,.slice none 0 0,.slice none 0 0,.slice none 0 0] (d+4) (mE c 4) (.slice none 0 0) []:=by rw [←hXa];exact HB2.out.set 1 (.string s)
 have HB3:=Ω hbq
 clear hXa hbq
 clear hfld
 clear cb0 cb1 cb2 cb3 cb4 cx0 cx1 cx2 cx3 cx4 cz0 cz1 cz2 cz3 cz4 clt
 clear ab0 ab1 ab2 ab3 ab4 ax0 ax1 ax2 ax3 ax4 az0 az1 az2 az3 az4 alt
 obtain ⟨Ag,ng,cg,l,hbz,hnz,hlz,haz⟩:=HB3.out.dim
 have HAZ:=Ω haz
 clear haz
 have HNG:=Ω hnz
 have HLZ:=Ω hlz
 have hng0:ng=0:=by rw [hnz,hlz];rfl
 have hng1:ng≤1:=by omega
 clear hng0 hnz hlz
 have HBD:=Ω hbz
 clear hbz
 have SO:Hid (∀X,(Blk X (w1.heap.size) 45 #[.int .i64 2,.string s,.slice Ag ng cg,.slice none 0 0,.slice none 0 0]∧w1.grownBy X (some sb))→(fun X=>X.cell? ⟨w1.heap.size,2,none⟩=some (.slice Ag ng cg)∧X.cell? ⟨w.heap.size,0,none⟩=some (.slice Av nv cv)∧X.cell? ⟨w.heap.size,1,none⟩=some (.slice Aa na ca)∧X.cell? ⟨w.heap.size,2,none⟩=some (.slice Af nf cf)∧X.cell? ⟨w.heap.size,3,none⟩=some (.bool fr)∧X.cell? ⟨w.heap.size,4,none⟩=some (.bool loop)) X):=Ω (fun X h=>have hq:=HSCB.out.grown h.2 (fun e=>by have:=sj e;have:=HSB.out;omega);⟨h.1.cell 2,hq.cell 0,hq.cell 1,hq.cell 2,hq.cell 3,hq.cell 4⟩)
 refine wp_region_G 8 (fun X=>X.cell? ⟨w1.heap.size,2,none⟩=some (.slice Ag ng cg)∧X.cell? ⟨w.heap.size,0,none⟩=some (.slice Av nv cv)∧X.cell? ⟨w.heap.size,1,none⟩=some (.slice Aa na ca)∧X.cell? ⟨w.heap.size,2,none⟩=some (.slice Af nf cf)∧X.cell? ⟨w.heap.size,3,none⟩=some (.bool fr)∧X.cell? ⟨w.heap.size,4,none⟩=some (.bool loop)) (SO.out _ ⟨HBD.out.drew.blk,HBD.out.drew.gr⟩) ?_
 change GL _ _ _ _ _ 8 9 (Array.replicate 9 false) _ _
 have HB0:Hid (BoxS w1 sb Xa.drew (w1.heap.size+1) (w1.heap.size) 45 #[.int .i64 2,.string s,.slice Ag ng cg,.slice none 0 0,.slice none 0 0] ((d+4)) (mE c 4) (.slice Ag ng cg) (l)):=Ω HBD.out.drew
 obtain ⟨X0,hX0⟩:∃X0,Xa.drew=X0:=⟨_,rfl⟩
 rw [hX0] at HB0 ⊢
 clear hX0
 obtain ⟨css,hcss⟩:=HB0.out.own
 have HOW:=Ω hcss
 clear hcss
 refine gj 0 (.pointer (some ⟨w1.heap.size,2,none⟩)) ?_ (hQ:=fun _ _ _ h=>HQ.out _ _ _ _ _ h)
 refine gS 1 (.slice Ag ng cg) [8] ?_ ?_ (hQ:=fun _ _ _ h=>HQ.out _ _ _ _ _ h)
 ·intro w2 hSw;obtain ⟨g0,g1,g2,g3,g4,g5⟩:=hSw;go_simp
 refine gS 2 (.agg #[.slice Av nv cv,.slice Aa na ca,.slice Af nf cf,.bool fr,.bool loop]) [8] ?_ ?_ (hQ:=fun _ _ _ h=>HQ.out _ _ _ _ _ h)
 ·intro w2 hSw;obtain ⟨g0,g1,g2,g3,g4,g5⟩:=hSw;go_simp
 refine gj 3 (.pointer (some ⟨sb,0,none⟩)) ?_ (hQ:=fun _ _ _ h=>HQ.out _ _ _ _ _ h)
 refine gO 4 (fun K hK=>?_)
 go_simp
 refine (HHX3.out X0 HB0.out.gr HB0.out.src).mono ?_
 intro e X1 hp
 obtain ⟨x,Ax,cx,rfl,hm1,hx1,hs1,hg1⟩:=hp.new
 have HB1:=Ω (HB0.out.step hg1 hs1)
 have HMX:Hid ((mE c 4) x):=Ω (made_up (by omega) hm1)
 have HXR:=Ω (RExpr.up (d':=(d+4)) _ (by omega) hx1)
 have HG1:=Ω hg1
 have HSR:=Ω hs1
 clear hp hm1 hx1 hs1 hg1
 refine hK.out _ _ (SO.out _ ⟨HB1.out.blk,HB1.out.gr⟩) ?_
 clear hK K
 try simp only [sG]
 refine gO 5 (fun K hK=>?_)
 go_simp
 refine hK.out _ _ (SO.out _ ⟨(HB1.out.below (below1 _ _)).blk,(HB1.out.below (below1 _ _)).gr⟩) ?_
 clear hK K
 try simp only [sG]
 have hb2:=HB1.out.below (below1 X1 (.cells #[.int .i64 x.kind,.int .i64 x.op,.int .i64 x.n,.string x.name,.slice Ax x.args.length cx] 42))
 have hn2:Blk (X1.alloc (.cells #[.int .i64 x.kind,.int .i64 x.op,.int .i64 x.n,.string x.name,.slice Ax x.args.length cx] 42)) X1.heap.size 42 #[.int .i64 x.kind,.int .i64 x.op,.int .i64 x.n,.string x.name,.slice Ax x.args.length cx]:=Blk.new X1 _ _
 have h12:=below1 X1 (.cells #[.int .i64 x.kind,.int .i64 x.op,.int .i64 x.n,.string x.name,.slice Ax x.args.length cx] 42)
 generalize (X1.alloc (.cells #[.int .i64 x.kind,.int .i64 x.op,.int .i64 x.n,.string x.name,.slice Ax x.args.length cx] 42))=X2 at *
 have HB2:=Ω hb2
 have HN2:=Ω hn2
 have H12:=Ω h12
 clear hb2 hn2 h12
 refine gO 6 (fun K hK=>?_)
 have hsx:=HB2.out.bs
 refine step_append_lies _ (by rfl) _ _ _ (by rfl) (w1.heap.size+1) 42 zi _ 5 64 Tryz.underlying40 hj0 hj1 hj2 hj3 rfl (by omega) (.slice Ag ng cg) ng css.flatten (by rfl) (HB0.out.row2 HG1.out H12.out HNG.out HOW.out) ⟨X1.heap.size,0,none⟩ 1 1 [.int .i64 x.kind,.int .i64 x.op,.int .i64 x.n,.string x.name,.slice Ax x.args.length cx] (by rfl) (by rfl) (World.news_of_block HN2.out) (by simp [Value.oneCell']) (by omega) (by unfold maxLen;omega) (by omega) hsx X2.heap.size rfl ?_
 intro gp cp X3 hown3 hgrow3 hat3 hlt3
 have HB3:=Ω (HB0.out.app HG1.out HSR.out H12.out HNG.out HOW.out HXR.out rfl HMX.out hown3 hgrow3 hat3)
 clear hsx hown3 hgrow3 hat3
 refine hK.out _ _ (SO.out _ ⟨HB3.out.blk,HB3.out.gr⟩) ?_
 clear hK K
 try simp only [sG]
 refine gj 7 (.pointer (some ⟨w1.heap.size,2,none⟩)) ?_ (hQ:=fun _ _ _ h=>HQ.out _ _ _ _ _ h)
 refine gL (fun K hK=>?_)
 have kc:X3.cell? ⟨w1.heap.size,2,none⟩=some (.slice Ag ng cg):=HB3.out.blk.cell 2
 have kz:=HB3.out.blk.frozen 2
 go_simp
 refine hK.out _ _ ?_
 clear hK K
 try simp only [sG]
 have HB4:=Ω (HB3.out.set 2 (.slice (some ⟨gp,0,none⟩) (ng+1) cp))
 go_wp2
 exact HKK.out _ _ _ _ _ _ _ _ _ _ _ _ _ _ _ (⟨2,s,_,_,_,l++[x],[],[],HB4.out,by rw [HLZ.out];exact half_store hd HOK.out HM.out HMX.out,.inl ⟨rfl,rfl,rfl,rfl⟩⟩)
set_option maxRecDepth 100000 in
set_option maxHeartbeats 8000000 in
theorem form_call (cc:Code) (hc:(Tryz.f26.body.bind (thenOf 94))=some cc) {fr:Bool} {w:World} {sb:Nat} {c:Scp} {Av Aa Af:Option Addr} {nv na nf cv ca cf:Nat} {loop:Bool} {d:Nat} (G:GCtx fr w sb c Av Aa Af nv na nf cv ca cf loop d) {w1:World} (hgw:w.grownBy w1 (some sb)) (hsc:Blk w1 w.heap.size 61 #[.slice Av nv cv,.slice Aa na ca,.slice Af nf cf,.bool fr,.bool loop]) (Y:World)
  (hb:BoxS w1 sb Y (w1.heap.size+1) w1.heap.size 45 #[.int .i64 8,.string ⟨#[]⟩,.slice none 0 0,.slice none 0 0,.slice none 0 0] (d+4) (mE c 4) (.slice none 0 0) []) 
  (Q:Exit→Act→World→Prop) (hQ:∀p (a:Act) t (v:Value) (w':World),Q (Exit.panic p) (a.put t v) w'→Q (Exit.panic p) a w') (aA aB aC aD aE aF aG aH aI aJ aK aL aM aN aO aP aQ aR aS aT aU aV aW aX aY aZ bA bB bC bD bE bF bG bH bI bJ bK bL bM bN bO bP bQ bR bS bT bU bV bW bX bY bZ cA cB cC cD cE cF cG cH cI cJ cK cL cM cN cO cP cQ cR cS cT cU cV cW cX cY cZ dA dB dC dD dE dG dH dI dJ dK dL dM dN dO dP dQ dR dS dU dV dW dX dY dZ eA eB eC eD eE eF eG eH eI eJ eK eL eM eN eO eP eQ eR eS eT eU eV eW eX eY eZ fA fB fC fD fE fF fG fH fI fJ fK fL fM fN fO fP fQ fR fS fT fU fV fW fX fY fZ gA gB gC gD gE gF gG gH gI gJ gK gM gN gP gQ gR gT gU gV gW gX gY gZ hA hB hD hE hF hG hH hI hJ hL hM hN hO hP hR hT hU hV hW hX hY hZ iA iB iC iD iE iF iG iH iI iJ iK iL iM iN iO iP iQ iR iS iT iU iV iW:Value)
  (hK:∀(jV jW jX jY jZ kA kB kC kD:Value) (w':World),MidS w1 sb w' w1.heap.size c d loop→Q .normal { tmps:=#[aA,.pointer (some ⟨sb,0,none⟩),.int .i64 (d:Int),.pointer (some ⟨w.heap.size,0,none⟩),aB,aC,aD,aE,aF,aG,aH,.pointer (some ⟨w1.heap.size,0,none⟩),aI,aJ,aK,aL,aM,aN,aO,aP,aQ,aR,aS,aT,aU,aV,aW,aX,aY,aZ,bA,bB,bC,bD,bE,bF,bG,bH,bI,bJ,bK,bL,bM,bN,bO,bP,bQ,bR,bS,bT,bU,bV,bW,bX,bY,bZ,cA,cB,cC,cD,cE,cF,cG,cH,cI,cJ,cK,cL,cM,cN,cO,cP,cQ,cR,cS,cT,cU,cV,cW,cX,cY,cZ,dA,dB,dC,dD,dE,dG,dH,dI,dJ,dK,dL,dM,dN,dO,dP,dQ,dR,dS,jV,jW,jX,jY,jZ,kA,kB,kC,kD,eD,eE,eF,eG,eH,eI,eJ,eK,eL,eM,eN,eO,eP,eQ,eR,eS,eT,eU,eV,eW,eX,eY,eZ,fA,fB,fC,fD,fE,fF,fG,fH,fI,fJ,fK,fL,fM,fN,fO,fP,fQ,fR,fS,fT,fU,fV,fW,fX,fY,fZ,gA,gB,gC,gD,gE,gF,gG,gH,gI,gJ,gK,gM,gN,gP,gQ,gR,gT,gU,gV,gW,gX,gY,gZ,hA,hB,hD,hE,hF,hG,hH,hI,hJ,hL,hM,hN,hO,hP,hR,hT,hU,hV,hW,hX,hY,hZ,iA,iB,iC,iD,iE,iF,iG,iH,iI,iJ,iK,iL,iM,iN,iO,iP,iQ,iR,iS,iT,iU,iV,iW],defers:=[] } w') :
  cc.wp Tryz.prog Q { tmps:=#[aA,.pointer (some ⟨sb,0,none⟩),.int .i64 (d:Int),.pointer (some ⟨w.heap.size,0,none⟩),aB,aC,aD,aE,aF,aG,aH,.pointer (some ⟨w1.heap.size,0,none⟩),aI,aJ,aK,aL,aM,aN,aO,aP,aQ,aR,aS,aT,aU,aV,aW,aX,aY,aZ,bA,bB,bC,bD,bE,bF,bG,bH,bI,bJ,bK,bL,bM,bN,bO,bP,bQ,bR,bS,bT,bU,bV,bW,bX,bY,bZ,cA,cB,cC,cD,cE,cF,cG,cH,cI,cJ,cK,cL,cM,cN,cO,cP,cQ,cR,cS,cT,cU,cV,cW,cX,cY,cZ,dA,dB,dC,dD,dE,dG,dH,dI,dJ,dK,dL,dM,dN,dO,dP,dQ,dR,dS,dU,dV,dW,dX,dY,dZ,eA,eB,eC,eD,eE,eF,eG,eH,eI,eJ,eK,eL,eM,eN,eO,eP,eQ,eR,eS,eT,eU,eV,eW,eX,eY,eZ,fA,fB,fC,fD,fE,fF,fG,fH,fI,fJ,fK,fL,fM,fN,fO,fP,fQ,fR,fS,fT,fU,fV,fW,fX,fY,fZ,gA,gB,gC,gD,gE,gF,gG,gH,gI,gJ,gK,gM,gN,gP,gQ,gR,gT,gU,gV,gW,gX,gY,gZ,hA,hB,hD,hE,hF,hG,hH,hI,hJ,hL,hM,hN,hO,hP,hR,hT,hU,hV,hW,hX,hY,hZ,iA,iB,iC,iD,iE,iF,iG,iH,iI,iJ,iK,iL,iM,iN,iO,iP,iQ,iR,iS,iT,iU,iV,iW],defers:=[] } Y:=by
 have HKK:=Ω hK
 have HQ:=Ω hQ
 have hwx:w.heap.size<w1.heap.size:=hsc.lt
 have hwn:w.heap.size≠w1.heap.size:=Nat.ne_of_lt hwx
 have hwm:w1.heap.size≠w.heap.size:=Nat.ne_of_gt hwx
 have hcc:Tryz.f26.body.bind (thenOf 94)=some cc:=hc
 simp only [Tryz.f26,thenOf,Option.bind_some,Nat.reduceEqDiff,↓reduceIte,Option.none_or,Option.or_none,Option.some.injEq] at hcc
 subst hcc
 have HBX:=Ω hb
 have HSCB:=Ω hsc
 have HGW:=Ω hgw
 have HG:=Ω G
 have HNE:Hid (sb≠w.heap.size):=Ω (by have:=G.sb;omega)
 have hd:=G.hd
 have hd2:=G.hd2
 have HSB:=Ω G.sb
 have HOK:=Ω G.ok
 obtain ⟨zi,hj0,hj1,hj2,hj3⟩:=info_parts info_expr
 have HHX3:Hid (∀X,w1.grownBy X (some sb)→SrcAt X sb→Calls Tryz.prog 24 #[.agg #[.slice Av nv cv,.slice Aa na ca,.slice Af nf cf,.bool fr,.bool loop],.pointer (some ⟨sb,0,none⟩),.int .i64 3] X (ExprPost X sb c 3)):=Ω (fun X hg hs=>HG.out.iX X (HGW.out.trans hg) hs)
 have HHC3:Hid (∀X,w1.grownBy X (some sb)→SrcAt X sb→Calls Tryz.prog 41 #[.agg #[.slice Av nv cv,.slice Aa na ca,.slice Af nf cf,.bool fr,.bool loop],.pointer (some ⟨sb,0,none⟩),.int .i64 3] X fun e w'=>ExprPost X sb c 3 e w'∧IsCall e):=Ω (fun X hg hs=>HG.out.cl X (HGW.out.trans hg) hs)
 clear hc hK hQ hb hsc hgw G
 have HB1:Hid (BoxS w1 sb (Y.setCell ⟨w1.heap.size,0,none⟩ (.int .i64 10)) (w1.heap.size+1) w1.heap.size 45 #[.int .i64 10,.string ⟨#[]⟩,.slice none 0 0,.slice none 0 0,.slice none 0 0] (d+4) (mE c 4) (.slice none 0 0) []):=Ω (HBX.out.set 0 (.int .i64 10))
 obtain ⟨ab0,ab1,ab2,ab3,ab4⟩:=(HBX.out.sc HSCB.out HNE.out).c5
 obtain ⟨ax0,ax1,ax2,ax3,ax4⟩:=HBX.out.blk.c5
 obtain ⟨az0,az1,az2,az3,az4⟩:=HBX.out.blk.z5
 have alt:w1.heap.size<Y.heap.size:=HBX.out.bs
 go_upto_region 22 with fail
 refine wp_world ?_
 intro Xa hXa
 have hbq:BoxS w1 sb Xa (w1.heap.size+1) w1.heap.size 45 #[.int .i64 10,.string ⟨#[]⟩,.slice none 0 0,.slice none 0 0,.slice none 0 0] (d+4) (mE c 4) (.slice none 0 0) []:=by rw [←hXa];exact HB1.out
 have HB3:=Ω hbq
 clear hXa hbq
 clear ab0 ab1 ab2 ab3 ab4 ax0 ax1 ax2 ax3 ax4 az0 az1 az2 az3 az4 alt
 obtain ⟨Ag,ng,cg,l,hbz,hnz,hlz,haz⟩:=HB3.out.dim
 have HAZ:=Ω haz
 clear haz
 have HNG:=Ω hnz
 have HLZ:=Ω hlz
 have hng0:ng=0:=by rw [hnz,hlz];rfl
 have hng1:ng≤1:=by omega
 clear hng0 hnz hlz
 have HBD:=Ω hbz
 clear hbz
 have SO:Hid (∀X,(Blk X (w1.heap.size) 45 #[.int .i64 10,.string ⟨#[]⟩,.slice Ag ng cg,.slice none 0 0,.slice none 0 0]∧w1.grownBy X (some sb))→(fun X=>X.cell? ⟨w1.heap.size,2,none⟩=some (.slice Ag ng cg)∧X.cell? ⟨w.heap.size,0,none⟩=some (.slice Av nv cv)∧X.cell? ⟨w.heap.size,1,none⟩=some (.slice Aa na ca)∧X.cell? ⟨w.heap.size,2,none⟩=some (.slice Af nf cf)∧X.cell? ⟨w.heap.size,3,none⟩=some (.bool fr)∧X.cell? ⟨w.heap.size,4,none⟩=some (.bool loop)) X):=Ω (fun X h=>have hq:=HSCB.out.grown h.2 (fun e=>by have:=sj e;have:=HSB.out;omega);⟨h.1.cell 2,hq.cell 0,hq.cell 1,hq.cell 2,hq.cell 3,hq.cell 4⟩)
 refine wp_region_G 8 (fun X=>X.cell? ⟨w1.heap.size,2,none⟩=some (.slice Ag ng cg)∧X.cell? ⟨w.heap.size,0,none⟩=some (.slice Av nv cv)∧X.cell? ⟨w.heap.size,1,none⟩=some (.slice Aa na ca)∧X.cell? ⟨w.heap.size,2,none⟩=some (.slice Af nf cf)∧X.cell? ⟨w.heap.size,3,none⟩=some (.bool fr)∧X.cell? ⟨w.heap.size,4,none⟩=some (.bool loop)) (SO.out _ ⟨HBD.out.drew.blk,HBD.out.drew.gr⟩) ?_
 change GL _ _ _ _ _ 8 9 (Array.replicate 9 false) _ _
 have HB0:Hid (BoxS w1 sb Xa.drew (w1.heap.size+1) (w1.heap.size) 45 #[.int .i64 10,.string ⟨#[]⟩,.slice Ag ng cg,.slice none 0 0,.slice none 0 0] ((d+4)) (mE c 4) (.slice Ag ng cg) (l)):=Ω HBD.out.drew
 obtain ⟨X0,hX0⟩:∃X0,Xa.drew=X0:=⟨_,rfl⟩
 rw [hX0] at HB0 ⊢
 clear hX0
 obtain ⟨css,hcss⟩:=HB0.out.own
 have HOW:=Ω hcss
 clear hcss
 refine gj 0 (.pointer (some ⟨w1.heap.size,2,none⟩)) ?_ (hQ:=fun _ _ _ h=>HQ.out _ _ _ _ _ h)
 refine gS 1 (.slice Ag ng cg) [8] ?_ ?_ (hQ:=fun _ _ _ h=>HQ.out _ _ _ _ _ h)
 ·intro w2 hSw;obtain ⟨g0,g1,g2,g3,g4,g5⟩:=hSw;go_simp
 refine gS 2 (.agg #[.slice Av nv cv,.slice Aa na ca,.slice Af nf cf,.bool fr,.bool loop]) [8] ?_ ?_ (hQ:=fun _ _ _ h=>HQ.out _ _ _ _ _ h)
 ·intro w2 hSw;obtain ⟨g0,g1,g2,g3,g4,g5⟩:=hSw;go_simp
 refine gj 3 (.pointer (some ⟨sb,0,none⟩)) ?_ (hQ:=fun _ _ _ h=>HQ.out _ _ _ _ _ h)
 refine gO 4 (fun K hK=>?_)
 go_simp
 refine (HHC3.out X0 HB0.out.gr HB0.out.src).mono ?_
 intro e X1 hp
 obtain ⟨hp,ca1,ca2,ca3,ca4,hcl⟩:=hp;obtain ⟨x,Ax,cx,rfl,hm1,hx1,hs1,hg1⟩:=hp.new;have HK5:Hid (x.kind=5):=Ω (call_kind hcl);clear hcl ca1 ca2 ca3 ca4
 have HB1:=Ω (HB0.out.step hg1 hs1)
 have HMX:Hid ((mE c 4) x):=Ω (made_up (by omega) hm1)
 have HXR:=Ω (RExpr.up (d':=(d+4)) _ (by omega) hx1)
 have HG1:=Ω hg1
 have HSR:=Ω hs1
 clear hp hm1 hx1 hs1 hg1
 refine hK.out _ _ (SO.out _ ⟨HB1.out.blk,HB1.out.gr⟩) ?_
 clear hK K
 try simp only [sG]
 refine gO 5 (fun K hK=>?_)
 go_simp
 refine hK.out _ _ (SO.out _ ⟨(HB1.out.below (below1 _ _)).blk,(HB1.out.below (below1 _ _)).gr⟩) ?_
 clear hK K
 try simp only [sG]
 have hb2:=HB1.out.below (below1 X1 (.cells #[.int .i64 x.kind,.int .i64 x.op,.int .i64 x.n,.string x.name,.slice Ax x.args.length cx] 42))
 have hn2:Blk (X1.alloc (.cells #[.int .i64 x.kind,.int .i64 x.op,.int .i64 x.n,.string x.name,.slice Ax x.args.length cx] 42)) X1.heap.size 42 #[.int .i64 x.kind,.int .i64 x.op,.int .i64 x.n,.string x.name,.slice Ax x.args.length cx]:=Blk.new X1 _ _
 have h12:=below1 X1 (.cells #[.int .i64 x.kind,.int .i64 x.op,.int .i64 x.n,.string x.name,.slice Ax x.args.length cx] 42)
 generalize (X1.alloc (.cells #[.int .i64 x.kind,.int .i64 x.op,.int .i64 x.n,.string x.name,.slice Ax x.args.length cx] 42))=X2 at *
 have HB2:=Ω hb2
 have HN2:=Ω hn2
 have H12:=Ω h12
 clear hb2 hn2 h12
 refine gO 6 (fun K hK=>?_)
 have hsx:=HB2.out.bs
 refine step_append_lies _ (by rfl) _ _ _ (by rfl) (w1.heap.size+1) 42 zi _ 5 64 Tryz.underlying40 hj0 hj1 hj2 hj3 rfl (by omega) (.slice Ag ng cg) ng css.flatten (by rfl) (HB0.out.row2 HG1.out H12.out HNG.out HOW.out) ⟨X1.heap.size,0,none⟩ 1 1 [.int .i64 x.kind,.int .i64 x.op,.int .i64 x.n,.string x.name,.slice Ax x.args.length cx] (by rfl) (by rfl) (World.news_of_block HN2.out) (by simp [Value.oneCell']) (by omega) (by unfold maxLen;omega) (by omega) hsx X2.heap.size rfl ?_
 intro gp cp X3 hown3 hgrow3 hat3 hlt3
 have HB3:=Ω (HB0.out.app HG1.out HSR.out H12.out HNG.out HOW.out HXR.out rfl HMX.out hown3 hgrow3 hat3)
 clear hsx hown3 hgrow3 hat3
 refine hK.out _ _ (SO.out _ ⟨HB3.out.blk,HB3.out.gr⟩) ?_
 clear hK K
 try simp only [sG]
 refine gj 7 (.pointer (some ⟨w1.heap.size,2,none⟩)) ?_ (hQ:=fun _ _ _ h=>HQ.out _ _ _ _ _ h)
 refine gL (fun K hK=>?_)
 have kc:X3.cell? ⟨w1.heap.size,2,none⟩=some (.slice Ag ng cg):=HB3.out.blk.cell 2
 have kz:=HB3.out.blk.frozen 2
 go_simp
 refine hK.out _ _ ?_
 clear hK K
 try simp only [sG]
 have HB4:=Ω (HB3.out.set 2 (.slice (some ⟨gp,0,none⟩) (ng+1) cp))
 go_wp2
 exact HKK.out _ _ _ _ _ _ _ _ _ _ (⟨10,⟨#[]⟩,_,_,_,l++[x],[],[],HB4.out,by rw [HLZ.out];exact half_call hd HMX.out HK5.out,.inl ⟨rfl,rfl,rfl,rfl⟩⟩)
set_option maxRecDepth 100000 in
set_option maxHeartbeats 8000000 in
theorem form_ret (cc:Code) (hc:(Tryz.f26.body.bind (thenOf 109))=some cc) {fr:Bool} {w:World} {sb:Nat} {c:Scp} {Av Aa Af:Option Addr} {nv na nf cv ca cf:Nat} {loop:Bool} {d:Nat} (G:GCtx fr w sb c Av Aa Af nv na nf cv ca cf loop d) {w1:World} (hgw:w.grownBy w1 (some sb)) (hsc:Blk w1 w.heap.size 61 #[.slice Av nv cv,.slice Aa na ca,.slice Af nf cf,.bool fr,.bool loop]) (Y:World)
  (hb:BoxS w1 sb Y (w1.heap.size+1) w1.heap.size 45 #[.int .i64 8,.string ⟨#[]⟩,.slice none 0 0,.slice none 0 0,.slice none 0 0] (d+4) (mE c 4) (.slice none 0 0) []) 
  (Q:Exit→Act→World→Prop) (hQ:∀p (a:Act) t (v:Value) (w':World),Q (Exit.panic p) (a.put t v) w'→Q (Exit.panic p) a w') (aA aB aC aD aE aF aG aH aI aJ aK aL aM aN aO aP aQ aR aS aT aU aV aW aX aY aZ bA bB bC bD bE bF bG bH bI bJ bK bL bM bN bO bP bQ bR bS bT bU bV bW bX bY bZ cA cB cC cD cE cF cG cH cI cJ cK cL cM cN cO cP cQ cR cS cT cU cV cW cX cY cZ dA dB dC dD dE dG dH dI dJ dK dL dM dN dO dP dQ dR dS dU dV dW dX dY dZ eA eB eC eD eE eF eG eH eI eJ eK eL eM eN eO eP eQ eR eS eT eU eV eW eX eY eZ fA fB fC fD fE fF fG fH fI fJ fK fL fM fN fO fP fQ fR fS fT fU fV fW fX fY fZ gA gB gC gD gE gF gG gH gI gJ gK gM gN gP gQ gR gT gU gV gW gX gY gZ hA hB hD hE hF hG hH hI hJ hL hM hN hO hP hR hT hU hV hW hX hY hZ iA iB iC iD iE iF iG iH iI iJ iK iL iM iN iO iP iQ iR iS iT iU iV iW:Value)
  (hK:∀(kE kF kG kH kI kJ:Value) (w':World),MidS w1 sb w' w1.heap.size c d loop→Q .normal { tmps:=#[aA,.pointer (some ⟨sb,0,none⟩),.int .i64 (d:Int),.pointer (some ⟨w.heap.size,0,none⟩),aB,aC,aD,aE,aF,aG,aH,.pointer (some ⟨w1.heap.size,0,none⟩),aI,aJ,aK,aL,aM,aN,aO,aP,aQ,aR,aS,aT,aU,aV,aW,aX,aY,aZ,bA,bB,bC,bD,bE,bF,bG,bH,bI,bJ,bK,bL,bM,bN,bO,bP,bQ,bR,bS,bT,bU,bV,bW,bX,bY,bZ,cA,cB,cC,cD,cE,cF,cG,cH,cI,cJ,cK,cL,cM,cN,cO,cP,cQ,cR,cS,cT,cU,cV,cW,cX,cY,cZ,dA,dB,dC,dD,dE,dG,dH,dI,dJ,dK,dL,dM,dN,dO,dP,dQ,dR,dS,dU,dV,dW,dX,dY,dZ,eA,eB,eC,eD,eE,eF,eG,eH,eI,eJ,eK,kE,kF,kG,kH,kI,kJ,eR,eS,eT,eU,eV,eW,eX,eY,eZ,fA,fB,fC,fD,fE,fF,fG,fH,fI,fJ,fK,fL,fM,fN,fO,fP,fQ,fR,fS,fT,fU,fV,fW,fX,fY,fZ,gA,gB,gC,gD,gE,gF,gG,gH,gI,gJ,gK,gM,gN,gP,gQ,gR,gT,gU,gV,gW,gX,gY,gZ,hA,hB,hD,hE,hF,hG,hH,hI,hJ,hL,hM,hN,hO,hP,hR,hT,hU,hV,hW,hX,hY,hZ,iA,iB,iC,iD,iE,iF,iG,iH,iI,iJ,iK,iL,iM,iN,iO,iP,iQ,iR,iS,iT,iU,iV,iW],defers:=[] } w') :
  cc.wp Tryz.prog Q { tmps:=#[aA,.pointer (some ⟨sb,0,none⟩),.int .i64 (d:Int),.pointer (some ⟨w.heap.size,0,none⟩),aB,aC,aD,aE,aF,aG,aH,.pointer (some ⟨w1.heap.size,0,none⟩),aI,aJ,aK,aL,aM,aN,aO,aP,aQ,aR,aS,aT,aU,aV,aW,aX,aY,aZ,bA,bB,bC,bD,bE,bF,bG,bH,bI,bJ,bK,bL,bM,bN,bO,bP,bQ,bR,bS,bT,bU,bV,bW,bX,bY,bZ,cA,cB,cC,cD,cE,cF,cG,cH,cI,cJ,cK,cL,cM,cN,cO,cP,cQ,cR,cS,cT,cU,cV,cW,cX,cY,cZ,dA,dB,dC,dD,dE,dG,dH,dI,dJ,dK,dL,dM,dN,dO,dP,dQ,dR,dS,dU,dV,dW,dX,dY,dZ,eA,eB,eC,eD,eE,eF,eG,eH,eI,eJ,eK,eL,eM,eN,eO,eP,eQ,eR,eS,eT,eU,eV,eW,eX,eY,eZ,fA,fB,fC,fD,fE,fF,fG,fH,fI,fJ,fK,fL,fM,fN,fO,fP,fQ,fR,fS,fT,fU,fV,fW,fX,fY,fZ,gA,gB,gC,gD,gE,gF,gG,gH,gI,gJ,gK,gM,gN,gP,gQ,gR,gT,gU,gV,gW,gX,gY,gZ,hA,hB,hD,hE,hF,hG,hH,hI,hJ,hL,hM,hN,hO,hP,hR,hT,hU,hV,hW,hX,hY,hZ,iA,iB,iC,iD,iE,iF,iG,iH,iI,iJ,iK,iL,iM,iN,iO,iP,iQ,iR,iS,iT,iU,iV,iW],defers:=[] } Y:=by
 have HKK:=Ω hK
 have HQ:=Ω hQ
 have hwx:w.heap.size<w1.heap.size:=hsc.lt
 have hwn:w.heap.size≠w1.heap.size:=Nat.ne_of_lt hwx
 have hwm:w1.heap.size≠w.heap.size:=Nat.ne_of_gt hwx
 have hcc:Tryz.f26.body.bind (thenOf 109)=some cc:=hc
 simp only [Tryz.f26,thenOf,Option.bind_some,Nat.reduceEqDiff,↓reduceIte,Option.none_or,Option.or_none,Option.some.injEq] at hcc
 subst hcc
 have HBX:=Ω hb
 have HSCB:=Ω hsc
 have HGW:=Ω hgw
 have HG:=Ω G
 have HNE:Hid (sb≠w.heap.size):=Ω (by have:=G.sb;omega)
 have hd:=G.hd
 have hd2:=G.hd2
 have HSB:=Ω G.sb
 have HOK:=Ω G.ok
 obtain ⟨zi,hj0,hj1,hj2,hj3⟩:=info_parts info_expr
 have HHX3:Hid (∀X,w1.grownBy X (some sb)→SrcAt X sb→Calls Tryz.prog 24 #[.agg #[.slice Av nv cv,.slice Aa na ca,.slice Af nf cf,.bool fr,.bool loop],.pointer (some ⟨sb,0,none⟩),.int .i64 3] X (ExprPost X sb c 3)):=Ω (fun X hg hs=>HG.out.iX X (HGW.out.trans hg) hs)
 have HHC3:Hid (∀X,w1.grownBy X (some sb)→SrcAt X sb→Calls Tryz.prog 41 #[.agg #[.slice Av nv cv,.slice Aa na ca,.slice Af nf cf,.bool fr,.bool loop],.pointer (some ⟨sb,0,none⟩),.int .i64 3] X fun e w'=>ExprPost X sb c 3 e w'∧IsCall e):=Ω (fun X hg hs=>HG.out.cl X (HGW.out.trans hg) hs)
 clear hc hK hQ hb hsc hgw G
 obtain ⟨ab0,ab1,ab2,ab3,ab4⟩:=(HBX.out.sc HSCB.out HNE.out).c5
 obtain ⟨ax0,ax1,ax2,ax3,ax4⟩:=HBX.out.blk.c5
 obtain ⟨az0,az1,az2,az3,az4⟩:=HBX.out.blk.z5
 have alt:w1.heap.size<Y.heap.size:=HBX.out.bs
 have HBQ:=Ω (HBX.out.below (below1 Y (.cells #[.int .i64 7,.int .i64 9] 3)))
 go_wp2_with (go_at_call 21;refine (next_any _ sb 2 (by omega) HBQ.out.src).mono ?_;rintro e X2 ⟨⟨r,hr,rfl⟩,hs1,hg1⟩;obtain ⟨v,hv,hvc⟩:=pair_cell ((Blk.new Y 3 #[.int .i64 7,.int .i64 9]).grown hg1 (fun e=>by have:=sj e;have:=HBX.out.src.lt;omega)) hr;have HV:=Ω hv;have HB2:=Ω (HBQ.out.step hg1 hs1);clear hs1 hg1 hv;obtain ⟨cb0,cb1,cb2,cb3,cb4⟩:=(HB2.out.sc HSCB.out HNE.out).c5;obtain ⟨cx0,cx1,cx2,cx3,cx4⟩:=HB2.out.blk.c5;obtain ⟨cz0,cz1,cz2,cz3,cz4⟩:=HB2.out.blk.z5;have clt:w1.heap.size<X2.heap.size:=HB2.out.bs)
 exact HKK.out _ _ _ _ _ _ _ (⟨v,⟨#[]⟩,_,_,_,[],[],[],HB2.out.set 0 (.int .i64 v),half_one hd (by rcases HV.out with h|h;exact .inl h;exact .inr (.inr h)),.inl ⟨rfl,rfl,rfl,rfl⟩⟩)
set_option maxRecDepth 100000 in
set_option maxHeartbeats 8000000 in
theorem form_break (cc:Code) (hc:(Tryz.f26.body.bind (thenOf 175))=some cc) {fr:Bool} {w:World} {sb:Nat} {c:Scp} {Av Aa Af:Option Addr} {nv na nf cv ca cf:Nat} {loop:Bool} {d:Nat} (G:GCtx fr w sb c Av Aa Af nv na nf cv ca cf loop d) {w1:World} (hgw:w.grownBy w1 (some sb)) (hsc:Blk w1 w.heap.size 61 #[.slice Av nv cv,.slice Aa na ca,.slice Af nf cf,.bool fr,.bool loop]) (Y:World)
  (hb:BoxS w1 sb Y (w1.heap.size+1) w1.heap.size 45 #[.int .i64 8,.string ⟨#[]⟩,.slice none 0 0,.slice none 0 0,.slice none 0 0] (d+4) (mE c 4) (.slice none 0 0) []) 
  (Q:Exit→Act→World→Prop) (hQ:∀p (a:Act) t (v:Value) (w':World),Q (Exit.panic p) (a.put t v) w'→Q (Exit.panic p) a w') (aA aB aC aD aE aF aG aH aI aJ aK aL aM aN aO aP aQ aR aS aT aU aV aW aX aY aZ bA bB bC bD bE bF bG bH bI bJ bK bL bM bN bO bP bQ bR bS bT bU bV bW bX bY bZ cA cB cC cD cE cF cG cH cI cJ cK cL cM cN cO cP cQ cR cS cT cU cV cW cX cY cZ dA dB dC dD dE dG dH dI dJ dK dL dM dN dO dP dQ dR dS dU dV dW dX dY dZ eA eB eC eD eE eF eG eH eI eJ eK eL eM eN eO eP eQ eR eS eT eU eV eW eX eY eZ fA fB fC fD fE fF fG fH fI fJ fK fL fM fN fO fP fQ fR fS fT fU fV fW fX fY fZ gA gB gC gD gE gF gG gH gI gJ gK gM gN gP gQ gR gT gU gV gW gX gY gZ hA hB hD hE hF hG hH hI hJ hL hM hN hO hP hR hT hU hV hW hX hY hZ iA iB iC iD iE iF iG iH iI iJ iK iL iM iN iO iP iQ iR iS iT iU iV iW:Value)
  (hK:∀(lW lX lY lZ mA mB:Value) (w':World),MidS w1 sb w' w1.heap.size c d loop→Q .normal { tmps:=#[aA,.pointer (some ⟨sb,0,none⟩),.int .i64 (d:Int),.pointer (some ⟨w.heap.size,0,none⟩),aB,aC,aD,aE,aF,aG,aH,.pointer (some ⟨w1.heap.size,0,none⟩),aI,aJ,aK,aL,aM,aN,aO,aP,aQ,aR,aS,aT,aU,aV,aW,aX,aY,aZ,bA,bB,bC,bD,bE,bF,bG,bH,bI,bJ,bK,bL,bM,bN,bO,bP,bQ,bR,bS,bT,bU,bV,bW,bX,bY,bZ,cA,cB,cC,cD,cE,cF,cG,cH,cI,cJ,cK,cL,cM,cN,cO,cP,cQ,cR,cS,cT,cU,cV,cW,cX,cY,cZ,dA,dB,dC,dD,dE,dG,dH,dI,dJ,dK,dL,dM,dN,dO,dP,dQ,dR,dS,dU,dV,dW,dX,dY,dZ,eA,eB,eC,eD,eE,eF,eG,eH,eI,eJ,eK,eL,eM,eN,eO,eP,eQ,eR,eS,eT,eU,eV,eW,eX,eY,eZ,fA,fB,fC,fD,fE,fF,fG,fH,fI,fJ,fK,fL,fM,fN,fO,fP,fQ,fR,fS,fT,fU,fV,fW,fX,fY,fZ,gA,gB,gC,gD,gE,gF,gG,gH,gI,gJ,gK,gM,gN,gP,gQ,gR,gT,gU,gV,gW,gX,gY,gZ,hA,hB,hD,hE,hF,hG,hH,hI,hJ,hL,lW,lX,lY,lZ,mA,mB,hU,hV,hW,hX,hY,hZ,iA,iB,iC,iD,iE,iF,iG,iH,iI,iJ,iK,iL,iM,iN,iO,iP,iQ,iR,iS,iT,iU,iV,iW],defers:=[] } w') :
  cc.wp Tryz.prog Q { tmps:=#[aA,.pointer (some ⟨sb,0,none⟩),.int .i64 (d:Int),.pointer (some ⟨w.heap.size,0,none⟩),aB,aC,aD,aE,aF,aG,aH,.pointer (some ⟨w1.heap.size,0,none⟩),aI,aJ,aK,aL,aM,aN,aO,aP,aQ,aR,aS,aT,aU,aV,aW,aX,aY,aZ,bA,bB,bC,bD,bE,bF,bG,bH,bI,bJ,bK,bL,bM,bN,bO,bP,bQ,bR,bS,bT,bU,bV,bW,bX,bY,bZ,cA,cB,cC,cD,cE,cF,cG,cH,cI,cJ,cK,cL,cM,cN,cO,cP,cQ,cR,cS,cT,cU,cV,cW,cX,cY,cZ,dA,dB,dC,dD,dE,dG,dH,dI,dJ,dK,dL,dM,dN,dO,dP,dQ,dR,dS,dU,dV,dW,dX,dY,dZ,eA,eB,eC,eD,eE,eF,eG,eH,eI,eJ,eK,eL,eM,eN,eO,eP,eQ,eR,eS,eT,eU,eV,eW,eX,eY,eZ,fA,fB,fC,fD,fE,fF,fG,fH,fI,fJ,fK,fL,fM,fN,fO,fP,fQ,fR,fS,fT,fU,fV,fW,fX,fY,fZ,gA,gB,gC,gD,gE,gF,gG,gH,gI,gJ,gK,gM,gN,gP,gQ,gR,gT,gU,gV,gW,gX,gY,gZ,hA,hB,hD,hE,hF,hG,hH,hI,hJ,hL,hM,hN,hO,hP,hR,hT,hU,hV,hW,hX,hY,hZ,iA,iB,iC,iD,iE,iF,iG,iH,iI,iJ,iK,iL,iM,iN,iO,iP,iQ,iR,iS,iT,iU,iV,iW],defers:=[] } Y:=by
 have HKK:=Ω hK
 have HQ:=Ω hQ
 have hwx:w.heap.size<w1.heap.size:=hsc.lt
 have hwn:w.heap.size≠w1.heap.size:=Nat.ne_of_lt hwx
 have hwm:w1.heap.size≠w.heap.size:=Nat.ne_of_gt hwx
 have hcc:Tryz.f26.body.bind (thenOf 175)=some cc:=hc
 simp only [Tryz.f26,thenOf,Option.bind_some,Nat.reduceEqDiff,↓reduceIte,Option.none_or,Option.or_none,Option.some.injEq] at hcc
 subst hcc
 have HBX:=Ω hb
 have HSCB:=Ω hsc
 have HGW:=Ω hgw
 have HG:=Ω G
 have HNE:Hid (sb≠w.heap.size):=Ω (by have:=G.sb;omega)
 have hd:=G.hd
 have hd2:=G.hd2
 have HSB:=Ω G.sb
 have HOK:=Ω G.ok
 obtain ⟨zi,hj0,hj1,hj2,hj3⟩:=info_parts info_expr
 have HHX3:Hid (∀X,w1.grownBy X (some sb)→SrcAt X sb→Calls Tryz.prog 24 #[.agg #[.slice Av nv cv,.slice Aa na ca,.slice Af nf cf,.bool fr,.bool loop],.pointer (some ⟨sb,0,none⟩),.int .i64 3] X (ExprPost X sb c 3)):=Ω (fun X hg hs=>HG.out.iX X (HGW.out.trans hg) hs)
 have HHC3:Hid (∀X,w1.grownBy X (some sb)→SrcAt X sb→Calls Tryz.prog 41 #[.agg #[.slice Av nv cv,.slice Aa na ca,.slice Af nf cf,.bool fr,.bool loop],.pointer (some ⟨sb,0,none⟩),.int .i64 3] X fun e w'=>ExprPost X sb c 3 e w'∧IsCall e):=Ω (fun X hg hs=>HG.out.cl X (HGW.out.trans hg) hs)
 clear hc hK hQ hb hsc hgw G
 obtain ⟨ab0,ab1,ab2,ab3,ab4⟩:=(HBX.out.sc HSCB.out HNE.out).c5
 obtain ⟨ax0,ax1,ax2,ax3,ax4⟩:=HBX.out.blk.c5
 obtain ⟨az0,az1,az2,az3,az4⟩:=HBX.out.blk.z5
 have alt:w1.heap.size<Y.heap.size:=HBX.out.bs
 have HBQ:=Ω (HBX.out.below (below1 Y (.cells #[.int .i64 5,.int .i64 6] 3)))
 go_wp2_with (go_at_call 21;refine (next_any _ sb 2 (by omega) HBQ.out.src).mono ?_;rintro e X2 ⟨⟨r,hr,rfl⟩,hs1,hg1⟩;obtain ⟨v,hv,hvc⟩:=pair_cell ((Blk.new Y 3 #[.int .i64 5,.int .i64 6]).grown hg1 (fun e=>by have:=sj e;have:=HBX.out.src.lt;omega)) hr;have HV:=Ω hv;have HB2:=Ω (HBQ.out.step hg1 hs1);clear hs1 hg1 hv;obtain ⟨cb0,cb1,cb2,cb3,cb4⟩:=(HB2.out.sc HSCB.out HNE.out).c5;obtain ⟨cx0,cx1,cx2,cx3,cx4⟩:=HB2.out.blk.c5;obtain ⟨cz0,cz1,cz2,cz3,cz4⟩:=HB2.out.blk.z5;have clt:w1.heap.size<X2.heap.size:=HB2.out.bs)
 exact HKK.out _ _ _ _ _ _ _ (⟨v,⟨#[]⟩,_,_,_,[],[],[],HB2.out.set 0 (.int .i64 v),half_loop hd HV.out,.inl ⟨rfl,rfl,rfl,rfl⟩⟩)
set_option maxRecDepth 100000 in
set_option maxHeartbeats 8000000 in
theorem form_if (cc:Code) (hc:(Tryz.f26.body.bind (thenOf 123))=some cc) {fr:Bool} {w:World} {sb:Nat} {c:Scp} {Av Aa Af:Option Addr} {nv na nf cv ca cf:Nat} {loop:Bool} {d:Nat} (G:GCtx fr w sb c Av Aa Af nv na nf cv ca cf loop d) {w1:World} (hgw:w.grownBy w1 (some sb)) (hsc:Blk w1 w.heap.size 61 #[.slice Av nv cv,.slice Aa na ca,.slice Af nf cf,.bool fr,.bool loop]) (Y:World)
  (hb:BoxS w1 sb Y (w1.heap.size+1) w1.heap.size 45 #[.int .i64 8,.string ⟨#[]⟩,.slice none 0 0,.slice none 0 0,.slice none 0 0] (d+4) (mE c 4) (.slice none 0 0) []) (h2d:2≤d)
  (Q:Exit→Act→World→Prop) (hQ:∀p (a:Act) t (v:Value) (w':World),Q (Exit.panic p) (a.put t v) w'→Q (Exit.panic p) a w') (aA aB aC aD aE aF aG aH aI aJ aK aL aM aN aO aP aQ aR aS aT aU aV aW aX aY aZ bA bB bC bD bE bF bG bH bI bJ bK bL bM bN bO bP bQ bR bS bT bU bV bW bX bY bZ cA cB cC cD cE cF cG cH cI cJ cK cL cM cN cO cP cQ cR cS cT cU cV cW cX cY cZ dA dB dC dD dE dG dH dI dJ dK dL dM dN dO dP dQ dR dS dU dV dW dX dY dZ eA eB eC eD eE eF eG eH eI eJ eK eL eM eN eO eP eQ eR eS eT eU eV eW eX eY eZ fA fB fC fD fE fF fG fH fI fJ fK fL fM fN fO fP fQ fR fS fT fU fV fW fX fY fZ gA gB gC gD gE gF gG gH gI gJ gK gM gN gP gQ gR gT gU gV gW gX gY gZ hA hB hD hE hF hG hH hI hJ hL hM hN hO hP hR hT hU hV hW hX hY hZ iA iB iC iD iE iF iG iH iI iJ iK iL iM iN iO iP iQ iR iS iT iU iV iW:Value)
  (hK:∀(kK kL kM kN kO kP kQ kR kS kT kU kV kW kX kY kZ lA lB lC lD lE:Value) (w':World),MidS w1 sb w' w1.heap.size c d loop→Q .normal { tmps:=#[aA,.pointer (some ⟨sb,0,none⟩),.int .i64 (d:Int),.pointer (some ⟨w.heap.size,0,none⟩),aB,aC,aD,aE,aF,aG,aH,.pointer (some ⟨w1.heap.size,0,none⟩),aI,aJ,aK,aL,aM,aN,aO,aP,aQ,aR,aS,aT,aU,aV,aW,aX,aY,aZ,bA,bB,bC,bD,bE,bF,bG,bH,bI,bJ,bK,bL,bM,bN,bO,bP,bQ,bR,bS,bT,bU,bV,bW,bX,bY,bZ,cA,cB,cC,cD,cE,cF,cG,cH,cI,cJ,cK,cL,cM,cN,cO,cP,cQ,cR,cS,cT,cU,cV,cW,cX,cY,cZ,dA,dB,dC,dD,dE,dG,dH,dI,dJ,dK,dL,dM,dN,dO,dP,dQ,dR,dS,dU,dV,dW,dX,dY,dZ,eA,eB,eC,eD,eE,eF,eG,eH,eI,eJ,eK,eL,eM,eN,eO,eP,eQ,eR,eS,eT,eU,eV,eW,eX,kK,kL,kM,kN,kO,kP,kQ,kR,kS,kT,kU,kV,kW,kX,kY,kZ,lA,lB,lC,lD,lE,fT,fU,fV,fW,fX,fY,fZ,gA,gB,gC,gD,gE,gF,gG,gH,gI,gJ,gK,gM,gN,gP,gQ,gR,gT,gU,gV,gW,gX,gY,gZ,hA,hB,hD,hE,hF,hG,hH,hI,hJ,hL,hM,hN,hO,hP,hR,hT,hU,hV,hW,hX,hY,hZ,iA,iB,iC,iD,iE,iF,iG,iH,iI,iJ,iK,iL,iM,iN,iO,iP,iQ,iR,iS,iT,iU,iV,iW],defers:=[] } w') :
  cc.wp Tryz.prog Q { tmps:=#[aA,.pointer (some ⟨sb,0,none⟩),.int .i64 (d:Int),.pointer (some ⟨w.heap.size,0,none⟩),aB,aC,aD,aE,aF,aG,aH,.pointer (some ⟨w1.heap.size,0,none⟩),aI,aJ,aK,aL,aM,aN,aO,aP,aQ,aR,aS,aT,aU,aV,aW,aX,aY,aZ,bA,bB,bC,bD,bE,bF,bG,bH,bI,bJ,bK,bL,bM,bN,bO,bP,bQ,bR,bS,bT,bU,bV,bW,bX,bY,bZ,cA,cB,cC,cD,cE,cF,cG,cH,cI,cJ,cK,cL,cM,cN,cO,cP,cQ,cR,cS,cT,cU,cV,cW,cX,cY,cZ,dA,dB,dC,dD,dE,dG,dH,dI,dJ,dK,dL,dM,dN,dO,dP,dQ,dR,dS,dU,dV,dW,dX,dY,dZ,eA,eB,eC,eD,eE,eF,eG,eH,eI,eJ,eK,eL,eM,eN,eO,eP,eQ,eR,eS,eT,eU,eV,eW,eX,eY,eZ,fA,fB,fC,fD,fE,fF,fG,fH,fI,fJ,fK,fL,fM,fN,fO,fP,fQ,fR,fS,fT,fU,fV,fW,fX,fY,fZ,gA,gB,gC,gD,gE,gF,gG,gH,gI,gJ,gK,gM,gN,gP,gQ,gR,gT,gU,gV,gW,gX,gY,gZ,hA,hB,hD,hE,hF,hG,hH,hI,hJ,hL,hM,hN,hO,hP,hR,hT,hU,hV,hW,hX,hY,hZ,iA,iB,iC,iD,iE,iF,iG,iH,iI,iJ,iK,iL,iM,iN,iO,iP,iQ,iR,iS,iT,iU,iV,iW],defers:=[] } Y:=by
 have HKK:=Ω hK
 have HQ:=Ω hQ
 have hwx:w.heap.size<w1.heap.size:=hsc.lt
 have hwn:w.heap.size≠w1.heap.size:=Nat.ne_of_lt hwx
 have hwm:w1.heap.size≠w.heap.size:=Nat.ne_of_gt hwx
 have hcc:Tryz.f26.body.bind (thenOf 123)=some cc:=hc
 simp only [Tryz.f26,thenOf,Option.bind_some,Nat.reduceEqDiff,↓reduceIte,Option.none_or,Option.or_none,Option.some.injEq] at hcc
 subst hcc
 have HBX:=Ω hb
 have HSCB:=Ω hsc
 have HGW:=Ω hgw
 have HG:=Ω G
 have HNE:Hid (sb≠w.heap.size):=Ω (by have:=G.sb;omega)
 have hd:=G.hd
 have hd2:=G.hd2
 have HSB:=Ω G.sb
 have HOK:=Ω G.ok
 obtain ⟨zi,hj0,hj1,hj2,hj3⟩:=info_parts info_expr
 have HHX3:Hid (∀X,w1.grownBy X (some sb)→SrcAt X sb→Calls Tryz.prog 24 #[.agg #[.slice Av nv cv,.slice Aa na ca,.slice Af nf cf,.bool fr,.bool loop],.pointer (some ⟨sb,0,none⟩),.int .i64 3] X (ExprPost X sb c 3)):=Ω (fun X hg hs=>HG.out.iX X (HGW.out.trans hg) hs)
 have HHC3:Hid (∀X,w1.grownBy X (some sb)→SrcAt X sb→Calls Tryz.prog 41 #[.agg #[.slice Av nv cv,.slice Aa na ca,.slice Af nf cf,.bool fr,.bool loop],.pointer (some ⟨sb,0,none⟩),.int .i64 3] X fun e w'=>ExprPost X sb c 3 e w'∧IsCall e):=Ω (fun X hg hs=>HG.out.cl X (HGW.out.trans hg) hs)
 clear hc hK hQ hb hsc hgw G
 have HSW:=Ω (HG.out.sm h2d)
 have HED:Hid (d-1+4=d+3):=Ω (by omega)
 have HB1:Hid (BoxS w1 sb (Y.setCell ⟨w1.heap.size,0,none⟩ (.int .i64 3)) (w1.heap.size+1) w1.heap.size 45 #[.int .i64 3,.string ⟨#[]⟩,.slice none 0 0,.slice none 0 0,.slice none 0 0] (d+4) (mE c 4) (.slice none 0 0) []):=Ω (HBX.out.set 0 (.int .i64 3))
 obtain ⟨ab0,ab1,ab2,ab3,ab4⟩:=(HBX.out.sc HSCB.out HNE.out).c5
 obtain ⟨ax0,ax1,ax2,ax3,ax4⟩:=HBX.out.blk.c5
 obtain ⟨az0,az1,az2,az3,az4⟩:=HBX.out.blk.z5
 have alt:w1.heap.size<Y.heap.size:=HBX.out.bs
 go_upto_region 27 with fail
 refine wp_world ?_
 intro Xa hXa
 have hbq:BoxS w1 sb Xa (w1.heap.size+1) w1.heap.size 45 #[.int .i64 3,.string ⟨#[]⟩,.slice none 0 0,.slice none 0 0,.slice none 0 0] (d+4) (mE c 4) (.slice none 0 0) []:=by rw [←hXa];exact HB1.out
 have HB3:=Ω hbq
 clear hXa hbq
 clear ab0 ab1 ab2 ab3 ab4 ax0 ax1 ax2 ax3 ax4 az0 az1 az2 az3 az4 alt
 obtain ⟨Ag,ng,cg,l,hbz,hnz,hlz,haz⟩:=HB3.out.dim
 have HAZ:=Ω haz
 clear haz
 have HNG:=Ω hnz
 have HLZ:=Ω hlz
 have hng0:ng=0:=by rw [hnz,hlz];rfl
 have hng1:ng≤1:=by omega
 clear hng0 hnz hlz
 have HBD:=Ω hbz
 clear hbz
 have SO:Hid (∀X,(Blk X (w1.heap.size) 45 #[.int .i64 3,.string ⟨#[]⟩,.slice Ag ng cg,.slice none 0 0,.slice none 0 0]∧w1.grownBy X (some sb))→(fun X=>X.cell? ⟨w1.heap.size,2,none⟩=some (.slice Ag ng cg)∧X.cell? ⟨w.heap.size,0,none⟩=some (.slice Av nv cv)∧X.cell? ⟨w.heap.size,1,none⟩=some (.slice Aa na ca)∧X.cell? ⟨w.heap.size,2,none⟩=some (.slice Af nf cf)∧X.cell? ⟨w.heap.size,3,none⟩=some (.bool fr)∧X.cell? ⟨w.heap.size,4,none⟩=some (.bool loop)) X):=Ω (fun X h=>have hq:=HSCB.out.grown h.2 (fun e=>by have:=sj e;have:=HSB.out;omega);⟨h.1.cell 2,hq.cell 0,hq.cell 1,hq.cell 2,hq.cell 3,hq.cell 4⟩)
 refine wp_region_G 8 (fun X=>X.cell? ⟨w1.heap.size,2,none⟩=some (.slice Ag ng cg)∧X.cell? ⟨w.heap.size,0,none⟩=some (.slice Av nv cv)∧X.cell? ⟨w.heap.size,1,none⟩=some (.slice Aa na ca)∧X.cell? ⟨w.heap.size,2,none⟩=some (.slice Af nf cf)∧X.cell? ⟨w.heap.size,3,none⟩=some (.bool fr)∧X.cell? ⟨w.heap.size,4,none⟩=some (.bool loop)) (SO.out _ ⟨HBD.out.drew.blk,HBD.out.drew.gr⟩) ?_
 change GL _ _ _ _ _ 8 9 (Array.replicate 9 false) _ _
 have HB0:Hid (BoxS w1 sb Xa.drew (w1.heap.size+1) (w1.heap.size) 45 #[.int .i64 3,.string ⟨#[]⟩,.slice Ag ng cg,.slice none 0 0,.slice none 0 0] ((d+4)) (mE c 4) (.slice Ag ng cg) (l)):=Ω HBD.out.drew
 obtain ⟨X0,hX0⟩:∃X0,Xa.drew=X0:=⟨_,rfl⟩
 rw [hX0] at HB0 ⊢
 clear hX0
 obtain ⟨css,hcss⟩:=HB0.out.own
 have HOW:=Ω hcss
 clear hcss
 refine gj 0 (.pointer (some ⟨w1.heap.size,2,none⟩)) ?_ (hQ:=fun _ _ _ h=>HQ.out _ _ _ _ _ h)
 refine gS 1 (.slice Ag ng cg) [8] ?_ ?_ (hQ:=fun _ _ _ h=>HQ.out _ _ _ _ _ h)
 ·intro w2 hSw;obtain ⟨g0,g1,g2,g3,g4,g5⟩:=hSw;go_simp
 refine gS 2 (.agg #[.slice Av nv cv,.slice Aa na ca,.slice Af nf cf,.bool fr,.bool loop]) [8] ?_ ?_ (hQ:=fun _ _ _ h=>HQ.out _ _ _ _ _ h)
 ·intro w2 hSw;obtain ⟨g0,g1,g2,g3,g4,g5⟩:=hSw;go_simp
 refine gj 3 (.pointer (some ⟨sb,0,none⟩)) ?_ (hQ:=fun _ _ _ h=>HQ.out _ _ _ _ _ h)
 refine gO 4 (fun K hK=>?_)
 go_simp
 refine (HHX3.out X0 HB0.out.gr HB0.out.src).mono ?_
 intro e X1 hp
 obtain ⟨x,Ax,cx,rfl,hm1,hx1,hs1,hg1⟩:=hp.new
 have HB1:=Ω (HB0.out.step hg1 hs1)
 have HMX:Hid ((mE c 4) x):=Ω (made_up (by omega) hm1)
 have HXR:=Ω (RExpr.up (d':=(d+4)) _ (by omega) hx1)
 have HG1:=Ω hg1
 have HSR:=Ω hs1
 clear hp hm1 hx1 hs1 hg1
 refine hK.out _ _ (SO.out _ ⟨HB1.out.blk,HB1.out.gr⟩) ?_
 clear hK K
 try simp only [sG]
 refine gO 5 (fun K hK=>?_)
 go_simp
 refine hK.out _ _ (SO.out _ ⟨(HB1.out.below (below1 _ _)).blk,(HB1.out.below (below1 _ _)).gr⟩) ?_
 clear hK K
 try simp only [sG]
 have hb2:=HB1.out.below (below1 X1 (.cells #[.int .i64 x.kind,.int .i64 x.op,.int .i64 x.n,.string x.name,.slice Ax x.args.length cx] 42))
 have hn2:Blk (X1.alloc (.cells #[.int .i64 x.kind,.int .i64 x.op,.int .i64 x.n,.string x.name,.slice Ax x.args.length cx] 42)) X1.heap.size 42 #[.int .i64 x.kind,.int .i64 x.op,.int .i64 x.n,.string x.name,.slice Ax x.args.length cx]:=Blk.new X1 _ _
 have h12:=below1 X1 (.cells #[.int .i64 x.kind,.int .i64 x.op,.int .i64 x.n,.string x.name,.slice Ax x.args.length cx] 42)
 generalize (X1.alloc (.cells #[.int .i64 x.kind,.int .i64 x.op,.int .i64 x.n,.string x.name,.slice Ax x.args.length cx] 42))=X2 at *
 have HB2:=Ω hb2
 have HN2:=Ω hn2
 have H12:=Ω h12
 clear hb2 hn2 h12
 refine gO 6 (fun K hK=>?_)
 have hsx:=HB2.out.bs
 refine step_append_lies _ (by rfl) _ _ _ (by rfl) (w1.heap.size+1) 42 zi _ 5 64 Tryz.underlying40 hj0 hj1 hj2 hj3 rfl (by omega) (.slice Ag ng cg) ng css.flatten (by rfl) (HB0.out.row2 HG1.out H12.out HNG.out HOW.out) ⟨X1.heap.size,0,none⟩ 1 1 [.int .i64 x.kind,.int .i64 x.op,.int .i64 x.n,.string x.name,.slice Ax x.args.length cx] (by rfl) (by rfl) (World.news_of_block HN2.out) (by simp [Value.oneCell']) (by omega) (by unfold maxLen;omega) (by omega) hsx X2.heap.size rfl ?_
 intro gp cp X3 hown3 hgrow3 hat3 hlt3
 have HB3:=Ω (HB0.out.app HG1.out HSR.out H12.out HNG.out HOW.out HXR.out rfl HMX.out hown3 hgrow3 hat3)
 clear hsx hown3 hgrow3 hat3
 refine hK.out _ _ (SO.out _ ⟨HB3.out.blk,HB3.out.gr⟩) ?_
 clear hK K
 try simp only [sG]
 refine gj 7 (.pointer (some ⟨w1.heap.size,2,none⟩)) ?_ (hQ:=fun _ _ _ h=>HQ.out _ _ _ _ _ h)
 refine gL (fun K hK=>?_)
 have kc:X3.cell? ⟨w1.heap.size,2,none⟩=some (.slice Ag ng cg):=HB3.out.blk.cell 2
 have kz:=HB3.out.blk.frozen 2
 go_simp
 refine hK.out _ _ ?_
 clear hK K
 try simp only [sG]
 have HB4:=Ω (HB3.out.set 2 (.slice (some ⟨gp,0,none⟩) (ng+1) cp))
 go_upto_region 28 with fail
 refine wp_world ?_
 intro Xb hXb
 have hbq:BoxS w1 sb Xb (w1.heap.size+1) w1.heap.size 45 #[.int .i64 3,.string ⟨#[]⟩,.slice (some ⟨gp,0,none⟩) (ng+1) cp,.slice none 0 0,.slice none 0 0] (d+4) (mE c 4) (.slice (some ⟨gp,0,none⟩) (ng+1) cp) (l++[x]):=by rw [←hXb];exact HB4.out
 have HB5:=Ω hbq
 clear hXb hbq
 obtain ⟨pb0,pb1,pb2,pb3,pb4⟩:=(HB5.out.sc HSCB.out HNE.out).c5
 obtain ⟨px0,px1,px2,px3,px4⟩:=HB5.out.blk.c5
 obtain ⟨pz0,pz1,pz2,pz3,pz4⟩:=HB5.out.blk.z5
 have plt:w1.heap.size<Xb.heap.size:=HB5.out.bs
 go_upto_region 29 with (go_at_call 26;refine (HSW.out loop _ (HGW.out.trans HB5.out.gr) HB5.out.src).mono ?_;intro e Xc hp;obtain ⟨tt,At,ct,rfl,hmt,hlt,hrt,hst,hgt⟩:=hp.open (g:=w1.heap.size) HB5.out.bs;have HB6:=Ω (HB5.out.step hgt hst);have HMt:=Ω hmt;have HLt:=Ω hlt;have HRt:=Ω hrt;clear hp hmt hlt hrt hst hgt;obtain ⟨qb0,qb1,qb2,qb3,qb4⟩:=(HB6.out.sc HSCB.out HNE.out).c5;obtain ⟨qx0,qx1,qx2,qx3,qx4⟩:=HB6.out.blk.c5;obtain ⟨qz0,qz1,qz2,qz3,qz4⟩:=HB6.out.blk.z5;have qlt:w1.heap.size<Xc.heap.size:=HB6.out.bs)
 clear pb0 pb1 pb2 pb3 pb4 px0 px1 px2 px3 px4 pz0 pz1 pz2 pz3 pz4 plt
 refine wp_world ?_
 intro Xd hXd
 have hbq:BoxS w1 sb Xd (w1.heap.size+1) w1.heap.size 45 #[.int .i64 3,.string ⟨#[]⟩,.slice (some ⟨gp,0,none⟩) (ng+1) cp,.slice At tt.length ct,.slice none 0 0] (d+4) (mE c 4) (.slice (some ⟨gp,0,none⟩) (ng+1) cp) (l++[x]):=by rw [←hXd];exact HB6.out.set 3 (.slice At tt.length ct)
 have hrq:RowT w1.heap.size Xd (d+3) (.slice At tt.length ct) tt:=by have h:=HRt.out;rw [HED.out] at h;rw [←hXd];exact h.set 3 _
 have HR7:=Ω hrq
 clear hrq HRt
 have HB7:=Ω hbq
 clear hXd hbq
 clear qb0 qb1 qb2 qb3 qb4 qx0 qx1 qx2 qx3 qx4 qz0 qz1 qz2 qz3 qz4 qlt
 obtain ⟨pb0,pb1,pb2,pb3,pb4⟩:=(HB7.out.sc HSCB.out HNE.out).c5
 obtain ⟨px0,px1,px2,px3,px4⟩:=HB7.out.blk.c5
 obtain ⟨pz0,pz1,pz2,pz3,pz4⟩:=HB7.out.blk.z5
 have plt:w1.heap.size<Xd.heap.size:=HB7.out.bs
 go_wp2_with (go_at_call 26;refine (HSW.out loop _ (HGW.out.trans HB7.out.gr) HB7.out.src).mono ?_;intro e Xe hp;obtain ⟨tu,Au,cu,rfl,hmu,hlu,hru,hsu,hgu⟩:=hp.open (g:=w1.heap.size) HB7.out.bs;have HB8:=Ω (HB7.out.step hgu hsu);have HMu:=Ω hmu;have HLu:=Ω hlu;have HRu:=Ω hru;have HR8:=Ω (HR7.out.grown hgu HBX.out.sb);clear hp hmu hlu hru hsu hgu;obtain ⟨qb0,qb1,qb2,qb3,qb4⟩:=(HB8.out.sc HSCB.out HNE.out).c5;obtain ⟨qx0,qx1,qx2,qx3,qx4⟩:=HB8.out.blk.c5;obtain ⟨qz0,qz1,qz2,qz3,qz4⟩:=HB8.out.blk.z5;have qlt:w1.heap.size<Xe.heap.size:=HB8.out.bs)
 have hru:RowT w1.heap.size Xe (d+3) (.slice Au tu.length cu) tu:=by have h:=HRu.out;rw [HED.out] at h;exact h
 exact HKK.out _ _ _ _ _ _ _ _ _ _ _ _ _ _ _ _ _ _ _ _ _ _ (⟨3,⟨#[]⟩,_,_,_,l++[x],tt,tu,HB8.out.set 4 (.slice Au tu.length cu),by rw [HLZ.out];exact half_if hd HMX.out HMt.out HMu.out HLt.out HLu.out,.inr ⟨by rw [HLZ.out];rfl,HR8.out.set 4 _,hru.set 4 _⟩⟩)
set_option maxRecDepth 100000 in
set_option maxHeartbeats 8000000 in
theorem form_while (cc:Code) (hc:(Tryz.f26.body.bind (thenOf 151))=some cc) {fr:Bool} {w:World} {sb:Nat} {c:Scp} {Av Aa Af:Option Addr} {nv na nf cv ca cf:Nat} {loop:Bool} {d:Nat} (G:GCtx fr w sb c Av Aa Af nv na nf cv ca cf loop d) {w1:World} (hgw:w.grownBy w1 (some sb)) (hsc:Blk w1 w.heap.size 61 #[.slice Av nv cv,.slice Aa na ca,.slice Af nf cf,.bool fr,.bool loop]) (Y:World)
  (hb:BoxS w1 sb Y (w1.heap.size+1) w1.heap.size 45 #[.int .i64 8,.string ⟨#[]⟩,.slice none 0 0,.slice none 0 0,.slice none 0 0] (d+4) (mE c 4) (.slice none 0 0) []) (h2d:2≤d)
  (Q:Exit→Act→World→Prop) (hQ:∀p (a:Act) t (v:Value) (w':World),Q (Exit.panic p) (a.put t v) w'→Q (Exit.panic p) a w') (aA aB aC aD aE aF aG aH aI aJ aK aL aM aN aO aP aQ aR aS aT aU aV aW aX aY aZ bA bB bC bD bE bF bG bH bI bJ bK bL bM bN bO bP bQ bR bS bT bU bV bW bX bY bZ cA cB cC cD cE cF cG cH cI cJ cK cL cM cN cO cP cQ cR cS cT cU cV cW cX cY cZ dA dB dC dD dE dG dH dI dJ dK dL dM dN dO dP dQ dR dS dU dV dW dX dY dZ eA eB eC eD eE eF eG eH eI eJ eK eL eM eN eO eP eQ eR eS eT eU eV eW eX eY eZ fA fB fC fD fE fF fG fH fI fJ fK fL fM fN fO fP fQ fR fS fT fU fV fW fX fY fZ gA gB gC gD gE gF gG gH gI gJ gK gM gN gP gQ gR gT gU gV gW gX gY gZ hA hB hD hE hF hG hH hI hJ hL hM hN hO hP hR hT hU hV hW hX hY hZ iA iB iC iD iE iF iG iH iI iJ iK iL iM iN iO iP iQ iR iS iT iU iV iW:Value)
  (hK:∀(iZ lF lG lH lI lJ lK lL lM lN lO lP lQ lR lS lT lU lV:Value) (w':World),MidS w1 sb w' w1.heap.size c d loop→Q .normal { tmps:=#[aA,.pointer (some ⟨sb,0,none⟩),.int .i64 (d:Int),.pointer (some ⟨w.heap.size,0,none⟩),aB,aC,aD,aE,aF,aG,aH,.pointer (some ⟨w1.heap.size,0,none⟩),aI,aJ,aK,iZ,aM,aN,aO,aP,aQ,aR,aS,aT,aU,aV,aW,aX,aY,aZ,bA,bB,bC,bD,bE,bF,bG,bH,bI,bJ,bK,bL,bM,bN,bO,bP,bQ,bR,bS,bT,bU,bV,bW,bX,bY,bZ,cA,cB,cC,cD,cE,cF,cG,cH,cI,cJ,cK,cL,cM,cN,cO,cP,cQ,cR,cS,cT,cU,cV,cW,cX,cY,cZ,dA,dB,dC,dD,dE,dG,dH,dI,dJ,dK,dL,dM,dN,dO,dP,dQ,dR,dS,dU,dV,dW,dX,dY,dZ,eA,eB,eC,eD,eE,eF,eG,eH,eI,eJ,eK,eL,eM,eN,eO,eP,eQ,eR,eS,eT,eU,eV,eW,eX,eY,eZ,fA,fB,fC,fD,fE,fF,fG,fH,fI,fJ,fK,fL,fM,fN,fO,fP,fQ,fR,fS,fT,fU,fV,fW,fX,fY,fZ,lF,lG,lH,lI,lJ,lK,lL,lM,lN,lO,lP,lQ,lR,lS,lT,lU,lV,gU,gV,gW,gX,gY,gZ,hA,hB,hD,hE,hF,hG,hH,hI,hJ,hL,hM,hN,hO,hP,hR,hT,hU,hV,hW,hX,hY,hZ,iA,iB,iC,iD,iE,iF,iG,iH,iI,iJ,iK,iL,iM,iN,iO,iP,iQ,iR,iS,iT,iU,iV,iW],defers:=[] } w') :
  cc.wp Tryz.prog Q { tmps:=#[aA,.pointer (some ⟨sb,0,none⟩),.int .i64 (d:Int),.pointer (some ⟨w.heap.size,0,none⟩),aB,aC,aD,aE,aF,aG,aH,.pointer (some ⟨w1.heap.size,0,none⟩),aI,aJ,aK,aL,aM,aN,aO,aP,aQ,aR,aS,aT,aU,aV,aW,aX,aY,aZ,bA,bB,bC,bD,bE,bF,bG,bH,bI,bJ,bK,bL,bM,bN,bO,bP,bQ,bR,bS,bT,bU,bV,bW,bX,bY,bZ,cA,cB,cC,cD,cE,cF,cG,cH,cI,cJ,cK,cL,cM,cN,cO,cP,cQ,cR,cS,cT,cU,cV,cW,cX,cY,cZ,dA,dB,dC,dD,dE,dG,dH,dI,dJ,dK,dL,dM,dN,dO,dP,dQ,dR,dS,dU,dV,dW,dX,dY,dZ,eA,eB,eC,eD,eE,eF,eG,eH,eI,eJ,eK,eL,eM,eN,eO,eP,eQ,eR,eS,eT,eU,eV,eW,eX,eY,eZ,fA,fB,fC,fD,fE,fF,fG,fH,fI,fJ,fK,fL,fM,fN,fO,fP,fQ,fR,fS,fT,fU,fV,fW,fX,fY,fZ,gA,gB,gC,gD,gE,gF,gG,gH,gI,gJ,gK,gM,gN,gP,gQ,gR,gT,gU,gV,gW,gX,gY,gZ,hA,hB,hD,hE,hF,hG,hH,hI,hJ,hL,hM,hN,hO,hP,hR,hT,hU,hV,hW,hX,hY,hZ,iA,iB,iC,iD,iE,iF,iG,iH,iI,iJ,iK,iL,iM,iN,iO,iP,iQ,iR,iS,iT,iU,iV,iW],defers:=[] } Y:=by
 have HKK:=Ω hK
 have HQ:=Ω hQ
 have hwx:w.heap.size<w1.heap.size:=hsc.lt
 have hwn:w.heap.size≠w1.heap.size:=Nat.ne_of_lt hwx
 have hwm:w1.heap.size≠w.heap.size:=Nat.ne_of_gt hwx
 have hcc:Tryz.f26.body.bind (thenOf 151)=some cc:=hc
 simp only [Tryz.f26,thenOf,Option.bind_some,Nat.reduceEqDiff,↓reduceIte,Option.none_or,Option.or_none,Option.some.injEq] at hcc
 subst hcc
 have HBX:=Ω hb
 have HSCB:=Ω hsc
 have HGW:=Ω hgw
 have HG:=Ω G
 have HNE:Hid (sb≠w.heap.size):=Ω (by have:=G.sb;omega)
 have hd:=G.hd
 have hd2:=G.hd2
 have HSB:=Ω G.sb
 have HOK:=Ω G.ok
 obtain ⟨zi,hj0,hj1,hj2,hj3⟩:=info_parts info_expr
 have HHX3:Hid (∀X,w1.grownBy X (some sb)→SrcAt X sb→Calls Tryz.prog 24 #[.agg #[.slice Av nv cv,.slice Aa na ca,.slice Af nf cf,.bool fr,.bool loop],.pointer (some ⟨sb,0,none⟩),.int .i64 3] X (ExprPost X sb c 3)):=Ω (fun X hg hs=>HG.out.iX X (HGW.out.trans hg) hs)
 have HHC3:Hid (∀X,w1.grownBy X (some sb)→SrcAt X sb→Calls Tryz.prog 41 #[.agg #[.slice Av nv cv,.slice Aa na ca,.slice Af nf cf,.bool fr,.bool loop],.pointer (some ⟨sb,0,none⟩),.int .i64 3] X fun e w'=>ExprPost X sb c 3 e w'∧IsCall e):=Ω (fun X hg hs=>HG.out.cl X (HGW.out.trans hg) hs)
 clear hc hK hQ hb hsc hgw G
 have HSW:=Ω (HG.out.sm h2d)
 have HED:Hid (d-1+4=d+3):=Ω (by omega)
 obtain ⟨ab0,ab1,ab2,ab3,ab4⟩:=(HBX.out.sc HSCB.out HNE.out).c5
 obtain ⟨ax0,ax1,ax2,ax3,ax4⟩:=HBX.out.blk.c5
 obtain ⟨az0,az1,az2,az3,az4⟩:=HBX.out.blk.z5
 have alt:w1.heap.size<Y.heap.size:=HBX.out.bs
 go_upto_region 34 with fail
 obtain ⟨gi,hgi⟩:∃g,Y.heap.size=g:=⟨_,rfl⟩
 rw [hgi]
 refine wp_world ?_
 intro Xa hXa
 have HGI:Hid (w1.heap.size<gi):=Ω (by rw [←hgi];exact HBX.out.bs)
 have hin:Blk Xa gi 61 #[.slice Av nv cv,.slice Aa na ca,.slice Af nf cf,.bool fr,.bool true]:=by rw [←hXa];exact Blk.new_at _ _ _ (by simp [World.setCell];omega)
 have hbq:BoxS w1 sb Xa (w1.heap.size+1) w1.heap.size 45 #[.int .i64 4,.string ⟨#[]⟩,.slice none 0 0,.slice none 0 0,.slice none 0 0] (d+4) (mE c 4) (.slice none 0 0) []:=by rw [←hXa];exact (HBX.out.set 0 (.int .i64 4)).below (below1 _ _)
 have HB3:=Ω hbq
 have HIN:=Ω hin
 clear hXa hbq hin hgi
 clear ab0 ab1 ab2 ab3 ab4 ax0 ax1 ax2 ax3 ax4 az0 az1 az2 az3 az4 alt
 have HOB:Hid (∀n c,(Value.slice none n c).ownBlock=none):=Ω (fun _ _=>rfl)
 obtain ⟨Ag,ng,cg,l,hbz,hnz,hlz,haz⟩:=HB3.out.dim
 have HAZ:=Ω haz
 clear haz
 have HNG:=Ω hnz
 have HLZ:=Ω hlz
 have hng0:ng=0:=by rw [hnz,hlz];rfl
 have hng1:ng≤1:=by omega
 clear hng0 hnz hlz
 have HBD:=Ω hbz
 clear hbz
 have SO:Hid (∀X,(Blk X (w1.heap.size) 45 #[.int .i64 4,.string ⟨#[]⟩,.slice Ag ng cg,.slice none 0 0,.slice none 0 0]∧w1.grownBy X (some sb))→(fun X=>X.cell? ⟨w1.heap.size,2,none⟩=some (.slice Ag ng cg)∧X.cell? ⟨w.heap.size,0,none⟩=some (.slice Av nv cv)∧X.cell? ⟨w.heap.size,1,none⟩=some (.slice Aa na ca)∧X.cell? ⟨w.heap.size,2,none⟩=some (.slice Af nf cf)∧X.cell? ⟨w.heap.size,3,none⟩=some (.bool fr)∧X.cell? ⟨w.heap.size,4,none⟩=some (.bool loop)) X):=Ω (fun X h=>have hq:=HSCB.out.grown h.2 (fun e=>by have:=sj e;have:=HSB.out;omega);⟨h.1.cell 2,hq.cell 0,hq.cell 1,hq.cell 2,hq.cell 3,hq.cell 4⟩)
 refine wp_region_G 8 (fun X=>X.cell? ⟨w1.heap.size,2,none⟩=some (.slice Ag ng cg)∧X.cell? ⟨w.heap.size,0,none⟩=some (.slice Av nv cv)∧X.cell? ⟨w.heap.size,1,none⟩=some (.slice Aa na ca)∧X.cell? ⟨w.heap.size,2,none⟩=some (.slice Af nf cf)∧X.cell? ⟨w.heap.size,3,none⟩=some (.bool fr)∧X.cell? ⟨w.heap.size,4,none⟩=some (.bool loop)) (SO.out _ ⟨HBD.out.drew.blk,HBD.out.drew.gr⟩) ?_
 change GL _ _ _ _ _ 8 9 (Array.replicate 9 false) _ _
 have HB0:Hid (BoxS w1 sb Xa.drew (w1.heap.size+1) (w1.heap.size) 45 #[.int .i64 4,.string ⟨#[]⟩,.slice Ag ng cg,.slice none 0 0,.slice none 0 0] ((d+4)) (mE c 4) (.slice Ag ng cg) (l)):=Ω HBD.out.drew
 obtain ⟨X0,hX0⟩:∃X0,Xa.drew=X0:=⟨_,rfl⟩
 have HI0:Hid (Blk Xa.drew gi 61 #[.slice Av nv cv,.slice Aa na ca,.slice Af nf cf,.bool fr,.bool true]):=Ω HIN.out.drew;rw [hX0] at HI0 HB0 ⊢
 clear hX0
 obtain ⟨css,hcss⟩:=HB0.out.own
 have HOW:=Ω hcss
 clear hcss
 refine gj 0 (.pointer (some ⟨w1.heap.size,2,none⟩)) ?_ (hQ:=fun _ _ _ h=>HQ.out _ _ _ _ _ h)
 refine gS 1 (.slice Ag ng cg) [8] ?_ ?_ (hQ:=fun _ _ _ h=>HQ.out _ _ _ _ _ h)
 ·intro w2 hSw;obtain ⟨g0,g1,g2,g3,g4,g5⟩:=hSw;go_simp
 refine gS 2 (.agg #[.slice Av nv cv,.slice Aa na ca,.slice Af nf cf,.bool fr,.bool loop]) [8] ?_ ?_ (hQ:=fun _ _ _ h=>HQ.out _ _ _ _ _ h)
 ·intro w2 hSw;obtain ⟨g0,g1,g2,g3,g4,g5⟩:=hSw;go_simp
 refine gj 3 (.pointer (some ⟨sb,0,none⟩)) ?_ (hQ:=fun _ _ _ h=>HQ.out _ _ _ _ _ h)
 refine gO 4 (fun K hK=>?_)
 go_simp
 refine (HHX3.out X0 HB0.out.gr HB0.out.src).mono ?_
 intro e X1 hp
 obtain ⟨x,Ax,cx,rfl,hm1,hx1,hs1,hg1⟩:=hp.new
 have HB1:=Ω (HB0.out.step hg1 hs1)
 have HMX:Hid ((mE c 4) x):=Ω (made_up (by omega) hm1)
 have HXR:=Ω (RExpr.up (d':=(d+4)) _ (by omega) hx1)
 have HG1:=Ω hg1
 have HSR:=Ω hs1
 clear hp hm1 hx1 hs1 hg1
 refine hK.out _ _ (SO.out _ ⟨HB1.out.blk,HB1.out.gr⟩) ?_
 clear hK K
 try simp only [sG]
 refine gO 5 (fun K hK=>?_)
 go_simp
 refine hK.out _ _ (SO.out _ ⟨(HB1.out.below (below1 _ _)).blk,(HB1.out.below (below1 _ _)).gr⟩) ?_
 clear hK K
 try simp only [sG]
 have hb2:=HB1.out.below (below1 X1 (.cells #[.int .i64 x.kind,.int .i64 x.op,.int .i64 x.n,.string x.name,.slice Ax x.args.length cx] 42))
 have hn2:Blk (X1.alloc (.cells #[.int .i64 x.kind,.int .i64 x.op,.int .i64 x.n,.string x.name,.slice Ax x.args.length cx] 42)) X1.heap.size 42 #[.int .i64 x.kind,.int .i64 x.op,.int .i64 x.n,.string x.name,.slice Ax x.args.length cx]:=Blk.new X1 _ _
 have h12:=below1 X1 (.cells #[.int .i64 x.kind,.int .i64 x.op,.int .i64 x.n,.string x.name,.slice Ax x.args.length cx] 42)
 generalize (X1.alloc (.cells #[.int .i64 x.kind,.int .i64 x.op,.int .i64 x.n,.string x.name,.slice Ax x.args.length cx] 42))=X2 at *
 have HB2:=Ω hb2
 have HN2:=Ω hn2
 have H12:=Ω h12
 clear hb2 hn2 h12
 refine gO 6 (fun K hK=>?_)
 have hsx:=HB2.out.bs
 refine step_append_lies _ (by rfl) _ _ _ (by rfl) (w1.heap.size+1) 42 zi _ 5 64 Tryz.underlying40 hj0 hj1 hj2 hj3 rfl (by omega) (.slice Ag ng cg) ng css.flatten (by rfl) (HB0.out.row2 HG1.out H12.out HNG.out HOW.out) ⟨X1.heap.size,0,none⟩ 1 1 [.int .i64 x.kind,.int .i64 x.op,.int .i64 x.n,.string x.name,.slice Ax x.args.length cx] (by rfl) (by rfl) (World.news_of_block HN2.out) (by simp [Value.oneCell']) (by omega) (by unfold maxLen;omega) (by omega) hsx X2.heap.size rfl ?_
 intro gp cp X3 hown3 hgrow3 hat3 hlt3
 have HB3:=Ω (HB0.out.app HG1.out HSR.out H12.out HNG.out HOW.out HXR.out rfl HMX.out hown3 hgrow3 hat3)
 have HGR3:=Ω hgrow3;clear hsx hown3 hgrow3 hat3
 refine hK.out _ _ (SO.out _ ⟨HB3.out.blk,HB3.out.gr⟩) ?_
 clear hK K
 try simp only [sG]
 refine gj 7 (.pointer (some ⟨w1.heap.size,2,none⟩)) ?_ (hQ:=fun _ _ _ h=>HQ.out _ _ _ _ _ h)
 refine gL (fun K hK=>?_)
 have kc:X3.cell? ⟨w1.heap.size,2,none⟩=some (.slice Ag ng cg):=HB3.out.blk.cell 2
 have kz:=HB3.out.blk.frozen 2
 go_simp
 refine hK.out _ _ ?_
 clear hK K
 try simp only [sG]
 have HB4:=Ω (HB3.out.set 2 (.slice (some ⟨gp,0,none⟩) (ng+1) cp))
 have hi3:Blk X3 gi 61 #[.slice Av nv cv,.slice Aa na ca,.slice Af nf cf,.bool fr,.bool true]:=((HI0.out.grown HG1.out (fun e=>by have:=sj e;have:=HGI.out;have:=HBX.out.sb;omega)).below H12.out (HI0.out.grown HG1.out (fun e=>by have:=sj e;have:=HGI.out;have:=HBX.out.sb;omega)).lt).grown HGR3.out (by rw [HAZ.out];intro h;exact absurd h (by simp [Value.ownBlock]))
 have HI3:=Ω hi3
 clear hi3
 go_upto_region 35 with fail
 refine wp_world ?_
 intro Xb hXb
 have hbq:BoxS w1 sb Xb (w1.heap.size+1) w1.heap.size 45 #[.int .i64 4,.string ⟨#[]⟩,.slice (some ⟨gp,0,none⟩) (ng+1) cp,.slice none 0 0,.slice none 0 0] (d+4) (mE c 4) (.slice (some ⟨gp,0,none⟩) (ng+1) cp) (l++[x]):=by rw [←hXb];exact HB4.out
 have hi4:Blk Xb gi 61 #[.slice Av nv cv,.slice Aa na ca,.slice Af nf cf,.bool fr,.bool true]:=by rw [←hXb];exact HI3.out.far (by show gi≠w1.heap.size;have:=HGI.out;omega) _
 have HB5:=Ω hbq
 clear hXb hbq
 obtain ⟨gb0,gb1,gb2,gb3,gb4⟩:=hi4.c5
 clear hi4
 obtain ⟨pb0,pb1,pb2,pb3,pb4⟩:=(HB5.out.sc HSCB.out HNE.out).c5
 obtain ⟨px0,px1,px2,px3,px4⟩:=HB5.out.blk.c5
 obtain ⟨pz0,pz1,pz2,pz3,pz4⟩:=HB5.out.blk.z5
 have plt:w1.heap.size<Xb.heap.size:=HB5.out.bs
 go_wp2_with (go_at_call 26;refine (HSW.out true _ (HGW.out.trans HB5.out.gr) HB5.out.src).mono ?_;intro e Xc hp;obtain ⟨tt,At,ct,rfl,hmt,hlt,hrt,hst,hgt⟩:=hp.open (g:=w1.heap.size) HB5.out.bs;have HB6:=Ω (HB5.out.step hgt hst);have HMt:=Ω hmt;have HLt:=Ω hlt;have HRt:=Ω hrt;clear hp hmt hlt hrt hst hgt;obtain ⟨qb0,qb1,qb2,qb3,qb4⟩:=(HB6.out.sc HSCB.out HNE.out).c5;obtain ⟨qx0,qx1,qx2,qx3,qx4⟩:=HB6.out.blk.c5;obtain ⟨qz0,qz1,qz2,qz3,qz4⟩:=HB6.out.blk.z5;have qlt:w1.heap.size<Xc.heap.size:=HB6.out.bs)
 have hrt:RowT w1.heap.size Xc (d+3) (.slice At tt.length ct) tt:=by have h:=HRt.out;rw [HED.out] at h;exact h
 exact HKK.out _ _ _ _ _ _ _ _ _ _ _ _ _ _ _ _ _ _ _ (⟨4,⟨#[]⟩,_,_,_,l++[x],tt,[],HB6.out.set 3 (.slice At tt.length ct),by rw [HLZ.out];exact half_while hd HMX.out HMt.out HLt.out,.inr ⟨by rw [HLZ.out];rfl,hrt.set 3 _,RowT.nil_ _ _ _⟩⟩)
set_option maxRecDepth 100000 in
set_option maxHeartbeats 8000000 in
theorem fill_any (cc:Code) (hc:(Tryz.f26.body.bind (blkOf 3))=some cc) {fr:Bool} {w:World} {sb:Nat} {c:Scp} {Av Aa Af:Option Addr} {nv na nf cv ca cf:Nat} {loop:Bool} {d:Nat} (G:GCtx fr w sb c Av Aa Af nv na nf cv ca cf loop d) {w1:World} (hgw:w.grownBy w1 (some sb)) (hsc:Blk w1 w.heap.size 61 #[.slice Av nv cv,.slice Aa na ca,.slice Af nf cf,.bool fr,.bool loop]) (Y:World) (kd:Int) (nm:ByteArray) (v0:Value) (l0:List LExpr) (At Ae:Option Addr) (nt ne ct ce mz:Nat) (thn els:List LStmt)
  (hb:BoxS w1 sb Y (w1.heap.size+1) w1.heap.size 45 #[.int .i64 kd,.string nm,v0,.slice At nt ct,.slice Ae ne ce] (d+4) (mE c 4) v0 l0) (hh:HalfS c d loop kd nm l0 thn els) (hr:RestS w1.heap.size Y (d+3) (l0.length=manyZ kd) (.slice At nt ct) (.slice Ae ne ce) thn els) (hmz:mz=manyZ kd)
  (Q:Exit→Act→World→Prop) (hQ:∀p (a:Act) t (v:Value) (w':World),Q (Exit.panic p) (a.put t v) w'→Q (Exit.panic p) a w') (aA aB aC aD aE aF aG aH aI aJ aK aL aN aO aP aQ aR aS aT aU aV aW aX aY aZ bA bB bC bD bE bF bG bH bI bJ bK bL bM bN bO bP bQ bR bS bT bU bV bW bX bY bZ cA cB cC cD cE cF cG cH cI cJ cK cL cM cN cO cP cQ cR cS cT cU cV cW cX cY cZ dA dB dC dD dE dG dH dI dJ dK dL dM dN dO dP dQ dR dS dU dV dW dX dY dZ eA eB eC eD eE eF eG eH eI eJ eK eL eM eN eO eP eQ eR eS eT eU eV eW eX eY eZ fA fB fC fD fE fF fG fH fI fJ fK fL fM fN fO fP fQ fR fS fT fU fV fW fX fY fZ gA gB gC gD gE gF gG gH gI gJ gK gM gN gP gQ gR gT gU gV gW gX gY gZ hA hB hD hE hF hG hH hI hJ hL hM hN hO hP hR hT hU hV hW hX hY hZ iA iB iC iD iE iF iG iH iI iJ iK iL iM iN iO iP iQ iR iS iT iU iV iW:Value)
  (hK:∀(mC mD mF mG mH mI mJ mK mL mM mN mO mP:Value) (w':World),DoneS w1 sb w' w1.heap.size c d loop→Q .normal { tmps:=#[aA,.pointer (some ⟨sb,0,none⟩),.int .i64 (d:Int),.pointer (some ⟨w.heap.size,0,none⟩),aB,aC,aD,aE,aF,aG,aH,.pointer (some ⟨w1.heap.size,0,none⟩),aI,aJ,aK,aL,.int .i64 (mz:Int),aN,aO,aP,aQ,aR,aS,aT,aU,aV,aW,aX,aY,aZ,bA,bB,bC,bD,bE,bF,bG,bH,bI,bJ,bK,bL,bM,bN,bO,bP,bQ,bR,bS,bT,bU,bV,bW,bX,bY,bZ,cA,cB,cC,cD,cE,cF,cG,cH,cI,cJ,cK,cL,cM,cN,cO,cP,cQ,cR,cS,cT,cU,cV,cW,cX,cY,cZ,dA,dB,dC,dD,dE,dG,dH,dI,dJ,dK,dL,dM,dN,dO,dP,dQ,dR,dS,dU,dV,dW,dX,dY,dZ,eA,eB,eC,eD,eE,eF,eG,eH,eI,eJ,eK,eL,eM,eN,eO,eP,eQ,eR,eS,eT,eU,eV,eW,eX,eY,eZ,fA,fB,fC,fD,fE,fF,fG,fH,fI,fJ,fK,fL,fM,fN,fO,fP,fQ,fR,fS,fT,fU,fV,fW,fX,fY,fZ,gA,gB,gC,gD,gE,gF,gG,gH,gI,gJ,gK,gM,gN,gP,gQ,gR,gT,gU,gV,gW,gX,gY,gZ,hA,hB,hD,hE,hF,hG,hH,hI,hJ,hL,hM,hN,hO,hP,hR,hT,hU,hV,hW,hX,hY,hZ,iA,iB,iC,iD,iE,mC,mD,mF,mG,mH,mI,mJ,mK,mL,mM,mN,mO,mP,iS,iT,iU,iV,iW],defers:=[] } w') :
  (Code.block 3 cc).wp Tryz.prog Q { tmps:=#[aA,.pointer (some ⟨sb,0,none⟩),.int .i64 (d:Int),.pointer (some ⟨w.heap.size,0,none⟩),aB,aC,aD,aE,aF,aG,aH,.pointer (some ⟨w1.heap.size,0,none⟩),aI,aJ,aK,aL,.int .i64 (mz:Int),aN,aO,aP,aQ,aR,aS,aT,aU,aV,aW,aX,aY,aZ,bA,bB,bC,bD,bE,bF,bG,bH,bI,bJ,bK,bL,bM,bN,bO,bP,bQ,bR,bS,bT,bU,bV,bW,bX,bY,bZ,cA,cB,cC,cD,cE,cF,cG,cH,cI,cJ,cK,cL,cM,cN,cO,cP,cQ,cR,cS,cT,cU,cV,cW,cX,cY,cZ,dA,dB,dC,dD,dE,dG,dH,dI,dJ,dK,dL,dM,dN,dO,dP,dQ,dR,dS,dU,dV,dW,dX,dY,dZ,eA,eB,eC,eD,eE,eF,eG,eH,eI,eJ,eK,eL,eM,eN,eO,eP,eQ,eR,eS,eT,eU,eV,eW,eX,eY,eZ,fA,fB,fC,fD,fE,fF,fG,fH,fI,fJ,fK,fL,fM,fN,fO,fP,fQ,fR,fS,fT,fU,fV,fW,fX,fY,fZ,gA,gB,gC,gD,gE,gF,gG,gH,gI,gJ,gK,gM,gN,gP,gQ,gR,gT,gU,gV,gW,gX,gY,gZ,hA,hB,hD,hE,hF,hG,hH,hI,hJ,hL,hM,hN,hO,hP,hR,hT,hU,hV,hW,hX,hY,hZ,iA,iB,iC,iD,iE,iF,iG,iH,iI,iJ,iK,iL,iM,iN,iO,iP,iQ,iR,iS,iT,iU,iV,iW],defers:=[] } Y:=by
 have HKK:=Ω hK
 have HQ:=Ω hQ
 have hwx:w.heap.size<w1.heap.size:=hsc.lt
 have hwn:w.heap.size≠w1.heap.size:=Nat.ne_of_lt hwx
 have hwm:w1.heap.size≠w.heap.size:=Nat.ne_of_gt hwx
 have hcc:Tryz.f26.body.bind (blkOf 3)=some cc:=hc
 simp only [Tryz.f26,blkOf,Option.bind_some,Nat.reduceEqDiff,↓reduceIte,Option.none_or,Option.or_none,Option.some.injEq] at hcc
 subst hcc
 have HBX:=Ω hb
 have HSCB:=Ω hsc
 have HGW:=Ω hgw
 have HG:=Ω G
 have HNE:Hid (sb≠w.heap.size):=Ω (by have:=G.sb;omega)
 have hd:=G.hd
 have hd2:=G.hd2
 have HSB:=Ω G.sb
 have HOK:=Ω G.ok
 obtain ⟨zi,hj0,hj1,hj2,hj3⟩:=info_parts info_expr
 have HHX3:Hid (∀X,w1.grownBy X (some sb)→SrcAt X sb→Calls Tryz.prog 24 #[.agg #[.slice Av nv cv,.slice Aa na ca,.slice Af nf cf,.bool fr,.bool loop],.pointer (some ⟨sb,0,none⟩),.int .i64 3] X (ExprPost X sb c 3)):=Ω (fun X hg hs=>HG.out.iX X (HGW.out.trans hg) hs)
 have HHC3:Hid (∀X,w1.grownBy X (some sb)→SrcAt X sb→Calls Tryz.prog 41 #[.agg #[.slice Av nv cv,.slice Aa na ca,.slice Af nf cf,.bool fr,.bool loop],.pointer (some ⟨sb,0,none⟩),.int .i64 3] X fun e w'=>ExprPost X sb c 3 e w'∧IsCall e):=Ω (fun X hg hs=>HG.out.cl X (HGW.out.trans hg) hs)
 have HG0:=Ω G.iY
 clear hc hK hQ hb hsc hgw G
 have hmz2:mz≤2:=by rw [hmz];unfold manyZ;split;omega;split <;> omega
 have HHX4:Hid (∀X,w1.grownBy X (some sb)→SrcAt X sb→Calls Tryz.prog 24 #[.agg #[.slice Av nv cv,.slice Aa na ca,.slice Af nf cf,.bool fr,.bool loop],.pointer (some ⟨sb,0,none⟩),.int .i64 4] X (ExprPost X sb c 4)):=Ω (fun X hg hs=>HG0.out X (HGW.out.trans hg) hs)
 have HHH:=Ω hh
 have HRR:=Ω hr
 have HMZ:=Ω hmz
 clear hh hr hmz
 go_wp2
 go_loopg [] 3 (fun q wr=>∃(v:Value) (l:List LExpr),BoxS w1 sb wr (w1.heap.size+1) w1.heap.size 45 #[.int .i64 kd,.string nm,v,.slice At nt ct,.slice Ae ne ce] (d+4) (mE c 4) v l∧HalfS c d loop kd nm l thn els∧RestS w1.heap.size wr (d+3) (l.length=manyZ kd) (.slice At nt ct) (.slice Ae ne ce) thn els∧2<l.length+q)
 case atStart=>exact ⟨v0,l0,HBX.out,HHH.out,HRR.out,by omega⟩
 case round=>
  obtain ⟨v,l,hb,hh,hr,hq⟩:=hrel
  obtain ⟨css0,hcs0⟩:=hb.own
  obtain ⟨Ag,cg,hv⟩:=own_form hcs0.row
  clear hcs0 css0
  obtain ⟨ng,hng⟩:∃ng,ng=l.length:=⟨_,rfl⟩
  rw [←hng] at hv hq hr
  subst hv
  have HNG:=Ω hng
  have HB:=Ω hb
  have HH:=Ω hh
  have HR:=Ω hr
  have hfew:ng≤mz:=by have h:=hh.few;rw [HMZ.out,hng];exact h
  clear hb hh hr hng
  obtain ⟨ab0,ab1,ab2,ab3,ab4⟩:=(HB.out.sc HSCB.out HNE.out).c5
  obtain ⟨ax0,ax1,ax2,ax3,ax4⟩:=HB.out.blk.c5
  obtain ⟨az0,az1,az2,az3,az4⟩:=HB.out.blk.z5
  have alt:w1.heap.size<wr.heap.size:=HB.out.bs
  by_cases hlt:ng<mz
  ·have d1:decide ((ng:Int)<(mz:Int))=true:=dT (by omega)
   have HNIL:Hid ((.slice At nt ct:Value)=.slice none 0 0∧(.slice Ae ne ce:Value)=.slice none 0 0∧thn=[]∧els=[]):=Ω (by rcases HR.out with h|h;exact h;exact absurd (h.1.trans HMZ.out.symm) (by omega))
   go_upto_region 44 with fail
   clear ab0 ab1 ab2 ab3 ab4 ax0 ax1 ax2 ax3 ax4 az0 az1 az2 az3 az4 alt
   clear d1
   have SO:Hid (∀X,(Blk X (w1.heap.size) 45 #[.int .i64 kd,.string nm,.slice Ag ng cg,.slice At nt ct,.slice Ae ne ce]∧w1.grownBy X (some sb))→(fun X=>X.cell? ⟨w1.heap.size,2,none⟩=some (.slice Ag ng cg)∧X.cell? ⟨w.heap.size,0,none⟩=some (.slice Av nv cv)∧X.cell? ⟨w.heap.size,1,none⟩=some (.slice Aa na ca)∧X.cell? ⟨w.heap.size,2,none⟩=some (.slice Af nf cf)∧X.cell? ⟨w.heap.size,3,none⟩=some (.bool fr)∧X.cell? ⟨w.heap.size,4,none⟩=some (.bool loop)) X):=Ω (fun X h=>have hq:=HSCB.out.grown h.2 (fun e=>by have:=sj e;have:=HSB.out;omega);⟨h.1.cell 2,hq.cell 0,hq.cell 1,hq.cell 2,hq.cell 3,hq.cell 4⟩)
   refine wp_region_G 8 (fun X=>X.cell? ⟨w1.heap.size,2,none⟩=some (.slice Ag ng cg)∧X.cell? ⟨w.heap.size,0,none⟩=some (.slice Av nv cv)∧X.cell? ⟨w.heap.size,1,none⟩=some (.slice Aa na ca)∧X.cell? ⟨w.heap.size,2,none⟩=some (.slice Af nf cf)∧X.cell? ⟨w.heap.size,3,none⟩=some (.bool fr)∧X.cell? ⟨w.heap.size,4,none⟩=some (.bool loop)) (SO.out _ ⟨HB.out.drew.blk,HB.out.drew.gr⟩) ?_
   change GL _ _ _ _ _ 8 9 (Array.replicate 9 false) _ _
   have HB0:Hid (BoxS w1 sb wr.drew (w1.heap.size+1) (w1.heap.size) 45 #[.int .i64 kd,.string nm,.slice Ag ng cg,.slice At nt ct,.slice Ae ne ce] ((d+4)) (mE c 4) (.slice Ag ng cg) (l)):=Ω HB.out.drew
   obtain ⟨X0,hX0⟩:∃X0,wr.drew=X0:=⟨_,rfl⟩
   rw [hX0] at HB0 ⊢
   clear hX0
   obtain ⟨css,hcss⟩:=HB0.out.own
   have HOW:=Ω hcss
   clear hcss
   refine gj 0 (.pointer (some ⟨w1.heap.size,2,none⟩)) ?_ (hQ:=fun _ _ _ h=>HQ.out _ _ _ _ _ h)
   refine gS 1 (.slice Ag ng cg) [8] ?_ ?_ (hQ:=fun _ _ _ h=>HQ.out _ _ _ _ _ h)
   ·intro w2 hSw;obtain ⟨g0,g1,g2,g3,g4,g5⟩:=hSw;go_simp
   refine gS 2 (.agg #[.slice Av nv cv,.slice Aa na ca,.slice Af nf cf,.bool fr,.bool loop]) [8] ?_ ?_ (hQ:=fun _ _ _ h=>HQ.out _ _ _ _ _ h)
   ·intro w2 hSw;obtain ⟨g0,g1,g2,g3,g4,g5⟩:=hSw;go_simp
   refine gj 3 (.pointer (some ⟨sb,0,none⟩)) ?_ (hQ:=fun _ _ _ h=>HQ.out _ _ _ _ _ h)
   refine gO 4 (fun K hK=>?_)
   go_simp
   refine (HHX4.out X0 HB0.out.gr HB0.out.src).mono ?_
   intro e X1 hp
   obtain ⟨x,Ax,cx,rfl,hm1,hx1,hs1,hg1⟩:=hp.new
   have HB1:=Ω (HB0.out.step hg1 hs1)
   have HMX:Hid ((mE c 4) x):=Ω (hm1)
   have HXR:=Ω (RExpr.up (d':=(d+4)) _ (by omega) hx1)
   have HG1:=Ω hg1
   have HSR:=Ω hs1
   clear hp hm1 hx1 hs1 hg1
   refine hK.out _ _ (SO.out _ ⟨HB1.out.blk,HB1.out.gr⟩) ?_
   clear hK K
   try simp only [sG]
   refine gO 5 (fun K hK=>?_)
   go_simp
   refine hK.out _ _ (SO.out _ ⟨(HB1.out.below (below1 _ _)).blk,(HB1.out.below (below1 _ _)).gr⟩) ?_
   clear hK K
   try simp only [sG]
   have hb2:=HB1.out.below (below1 X1 (.cells #[.int .i64 x.kind,.int .i64 x.op,.int .i64 x.n,.string x.name,.slice Ax x.args.length cx] 42))
   have hn2:Blk (X1.alloc (.cells #[.int .i64 x.kind,.int .i64 x.op,.int .i64 x.n,.string x.name,.slice Ax x.args.length cx] 42)) X1.heap.size 42 #[.int .i64 x.kind,.int .i64 x.op,.int .i64 x.n,.string x.name,.slice Ax x.args.length cx]:=Blk.new X1 _ _
   have h12:=below1 X1 (.cells #[.int .i64 x.kind,.int .i64 x.op,.int .i64 x.n,.string x.name,.slice Ax x.args.length cx] 42)
   generalize (X1.alloc (.cells #[.int .i64 x.kind,.int .i64 x.op,.int .i64 x.n,.string x.name,.slice Ax x.args.length cx] 42))=X2 at *
   have HB2:=Ω hb2
   have HN2:=Ω hn2
   have H12:=Ω h12
   clear hb2 hn2 h12
   refine gO 6 (fun K hK=>?_)
   have hsx:=HB2.out.bs
   refine step_append_lies _ (by rfl) _ _ _ (by rfl) (w1.heap.size+1) 42 zi _ 5 64 Tryz.underlying40 hj0 hj1 hj2 hj3 rfl (by omega) (.slice Ag ng cg) ng css.flatten (by rfl) (HB0.out.row2 HG1.out H12.out HNG.out HOW.out) ⟨X1.heap.size,0,none⟩ 1 1 [.int .i64 x.kind,.int .i64 x.op,.int .i64 x.n,.string x.name,.slice Ax x.args.length cx] (by rfl) (by rfl) (World.news_of_block HN2.out) (by simp [Value.oneCell']) (by omega) (by unfold maxLen;omega) (by omega) hsx X2.heap.size rfl ?_
   intro gp cp X3 hown3 hgrow3 hat3 hlt3
   have HB3:=Ω (HB0.out.app HG1.out HSR.out H12.out HNG.out HOW.out HXR.out rfl HMX.out hown3 hgrow3 hat3)
   clear hsx hown3 hgrow3 hat3
   refine hK.out _ _ (SO.out _ ⟨HB3.out.blk,HB3.out.gr⟩) ?_
   clear hK K
   try simp only [sG]
   refine gj 7 (.pointer (some ⟨w1.heap.size,2,none⟩)) ?_ (hQ:=fun _ _ _ h=>HQ.out _ _ _ _ _ h)
   refine gL (fun K hK=>?_)
   have kc:X3.cell? ⟨w1.heap.size,2,none⟩=some (.slice Ag ng cg):=HB3.out.blk.cell 2
   have kz:=HB3.out.blk.frozen 2
   go_simp
   refine hK.out _ _ ?_
   clear hK K
   try simp only [sG]
   have HB4:=Ω (HB3.out.set 2 (.slice (some ⟨gp,0,none⟩) (ng+1) cp))
   go_wp2
   go_roundg (2-ng)
   case measure=>omega
   case rel=>exact ⟨_,l++[x],HB4.out,HH.out.more HMX.out (by rw [←HNG.out,←HMZ.out];exact hlt),.inl HNIL.out,by rw [List.length_append,List.length_singleton,←HNG.out];omega⟩
  ·have d1:decide ((ng:Int)<(mz:Int))=false:=dF (by omega)
   have hnm:ng=mz:=by omega
   have HD:Hid (DoneS w1 sb wr w1.heap.size c d loop):=Ω (done_of HB.out HH.out (by have h:=HR.out;rw [HNG.out] at h;exact h) (by rw [←HNG.out,←HMZ.out];exact hnm))
   clear hnm
   go_wp2
   exact HKK.out _ _ _ _ _ _ _ _ _ _ _ _ _ _ (HD.out)
end Go.Proofs.YtmignlclfbaifaaGreat
