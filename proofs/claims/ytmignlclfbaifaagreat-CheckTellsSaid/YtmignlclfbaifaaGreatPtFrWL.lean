/- What counterprooflaw03.Wild has in memory, ahead of and behind what it turns wrong. Plain laws. Three of the ways in which Wild turns a program wrong, each as a lemma of its own. Printed by wip/gen_frwildk.py. -/
import Derived.Test.YtmignlclfbaifaaGreatPtFrW
import Derived.Test.YtmignlclfbaifaaGreatPtFrBent
namespace Go.Proofs.YtmignlclfbaifaaGreat
open Go.RowKit
def okW (lo gF pb fb xb:Nat) (X:World) (b:Nat):Prop:=lo≤b∧b<X.heap.size∧b≠gF∧b≠pb∧b≠fb∧b≠xb
theorem grown_own_set (X:World) (b i:Nat) (u:Value):X.grownBy (X.setCell ⟨b,i,none⟩ u) (some b):=⟨rfl,rfl,rfl,by simp [World.setCell],fun k _ hne=>bhs X ⟨b,i,none⟩ u k (fun e=>hne (by rw [show k=b from e]))⟩
structure WOrd (w0:World) (rb sb cb g2 lo B1 B3 gF pb fb xb:Nat):Prop where
 h1:w0.heap.size≤rb
 h2:rb<sb
 h3:sb<g2
 h4:g2<cb
 h5:cb<B1
 h6:B1≤lo
 h7:lo≤B3
 h8:B3≤gF
 h9:gF<pb
 h10:pb<fb
 h11:fb<xb
structure WPre (w0 X:World) (fr:Bool) (p:LProg) (f:LFunc) (rb sb cb g2 lo B1 B3 gF pb fb xb:Nat) (A1 Ap Al Ab:Option Addr) (c1 c2 np nl nb cp cl cb':Nat) (css1 css:List (List Value)):Prop where
 below:Below w0.heap.size w0 X
 src:SrcAt X sb
 scp:Blk X cb 61 #[.slice (some ⟨g2,0,none⟩) 2 2,.slice none 0 0,.slice none 0 0,.bool fr,.bool false]
 nms:Blk X g2 9 #[.string ⟨#[120]⟩,.string ⟨#[112]⟩]
 res:Blk X rb 27 #[.slice none 0 0,.slice none 0 0]
 prg:Blk X pb 27 #[.slice A1 p.arrays.length c1,.slice (some ⟨gF,0,none⟩) p.funcs.length c2]
 arr:OwnL X B1 53 2 RArrM (.slice A1 p.arrays.length c1) p.arrays css1
 alt:∀k,(.slice A1 p.arrays.length c1:Value).ownBlock=some k→k<lo
 funs:OwnX X (okW lo gF pb fb xb X) B3 49 4 (RFuncM 8) (.slice (some ⟨gF,0,none⟩) p.funcs.length c2) p.funcs css
 fn:Blk X fb 49 #[.string f.name,.slice Ap np cp,.slice Al nl cl,.slice Ab nb cb']
 fp:SlR X (okW lo gF pb fb xb X) 1 RStr (.slice Ap np cp) f.params
 fl:SlR X (okW lo gF pb fb xb X) 1 RStr (.slice Al nl cl) f.locals
 fbd:SlR X (okW lo gF pb fb xb X) 5 (RStmt 8 X (okW lo gF pb fb xb X)) (.slice Ab nb cb') f.body
 ord:WOrd w0 rb sb cb g2 lo B1 B3 gF pb fb xb
structure WIn (D n:Nat) (w0 X:World) (fr:Bool) (p:LProg) (f:LFunc) (x:LStmt) (rb sb cb g2 lo B1 B3 gF pb fb xb:Nat) (A1 Ap Al Ab Ax At Ae:Option Addr) (c1 c2 np nl nb cp cl cb' nx nt ne cx ct ce:Nat) (css1 css:List (List Value)):Prop where
 pre:WPre w0 X fr p f rb sb cb g2 lo B1 B3 gF pb fb xb A1 Ap Al Ab c1 c2 np nl nb cp cl cb' css1 css
 st:Blk X xb 45 #[.int .i64 x.kind,.string x.name,.slice Ax nx cx,.slice At nt ct,.slice Ae ne ce]
 str:RStmt D X (okW lo gF pb fb xb X) (stmtCells x (.slice Ax nx cx) (.slice At nt ct) (.slice Ae ne ce)) x
 cnt:∀(d:Nat) (lp:Bool),(allL d [x] lp).length≤n
section
variable {D n:Nat} {w0 X Y:World} {fr:Bool} {p:LProg} {f:LFunc} {x:LStmt} {rb sb cb g2 lo B1 B3 gF pb fb xb:Nat} {A1 Ap Al Ab Ax At Ae:Option Addr} {c1 c2 np nl nb cp cl cb' nx nt ne cx ct ce:Nat} {css1 css:List (List Value)}
theorem okW.up (hs:X.heap.size≤Y.heap.size):∀b,okW lo gF pb fb xb X b→okW lo gF pb fb xb Y b:=fun _ hb=>⟨hb.1,ltle hb.2.1 hs,hb.2.2⟩
theorem WPre.step (h:WPre w0 X fr p f rb sb cb g2 lo B1 B3 gF pb fb xb A1 Ap Al Ab c1 c2 np nl nb cp cl cb' css1 css) (hg:X.grownBy Y (some sb)) (hs:SrcAt Y sb):WPre w0 Y fr p f rb sb cb g2 lo B1 B3 gF pb fb xb A1 Ap Al Ab c1 c2 np nl nb cp cl cb' css1 css:=by
 have o:=h.ord
 have q1:=o.h1;have q2:=o.h2;have q3:=o.h3;have q4:=o.h4;have q5:=o.h5;have q6:=o.h6;have q7:=o.h7;have q8:=o.h8;have q9:=o.h9;have q10:=o.h10
 have far:∀b,b≠sb→(some sb:Option Nat)≠some b:=fun b hb e=>hb (sj e).symm
 have up:=okW.up (lo:=lo) (gF:=gF) (pb:=pb) (fb:=fb) (xb:=xb) hg.size
 have kp:Keeps (okW lo gF pb fb xb X) X Y:=fun b hb=>hg.block b hb.2.1 (fun e=>by have:=sj e;have:=hb.1;omega)
 refine ⟨h.below.grown hg h.below.size (fun k e=>by have:=sj e;omega),hs,h.scp.grown hg (far _ (by omega)),h.nms.grown hg (far _ (by omega)),h.res.grown hg (far _ (by omega)),h.prg.grown hg (far _ (by omega)),?_,h.alt,?_,h.fn.grown hg (far _ (by omega)),h.fp.imp up kp (fun _ _ _ r=>r),h.fl.imp up kp (fun _ _ _ r=>r),h.fbd.imp up kp (fun _ _ _ r=>RStmt.imp up kp _ r),o⟩
 ·exact h.arr.keep mono_arr (fun b hb=>hg.block b hb.2 (fun e=>by have:=sj e;have:=hb.1;omega)) hg.size
 ·exact h.funs.grown (mono_func 8) hg (fun k e h2=>by have h3:gF=k:=(by simpa [Value.ownBlock] using e);have:=sj h2;omega) (fun b hb=>hb.2.1) (fun b hb e=>by have:=sj e;have:=hb.1;omega) up (fun k e hk=>hk.2.2.1 (by have h3:gF=k:=(by simpa [Value.ownBlock] using e);exact h3.symm))
theorem WPre.setx (h:WPre w0 X fr p f rb sb cb g2 lo B1 B3 gF pb fb xb A1 Ap Al Ab c1 c2 np nl nb cp cl cb' css1 css) (i:Nat) (u:Value):WPre w0 (X.setCell ⟨xb,i,none⟩ u) fr p f rb sb cb g2 lo B1 B3 gF pb fb xb A1 Ap Al Ab c1 c2 np nl nb cp cl cb' css1 css:=by
 have o:=h.ord
 have q1:=o.h1;have q2:=o.h2;have q3:=o.h3;have q4:=o.h4;have q5:=o.h5;have q6:=o.h6;have q7:=o.h7;have q8:=o.h8;have q9:=o.h9;have q10:=o.h10;have q11:=o.h11
 have hsz:(X.setCell ⟨xb,i,none⟩ u).heap.size=X.heap.size:=by simp [World.setCell]
 have hk:∀b,b≠xb→(X.setCell ⟨xb,i,none⟩ u).heap[b]?=X.heap[b]?:=fun b hb=>bhs X ⟨xb,i,none⟩ u b hb
 have up:∀b,okW lo gF pb fb xb X b→okW lo gF pb fb xb (X.setCell ⟨xb,i,none⟩ u) b:=fun b hb=>⟨hb.1,by rw [hsz];exact hb.2.1,hb.2.2⟩
 have kp:Keeps (okW lo gF pb fb xb X) X (X.setCell ⟨xb,i,none⟩ u):=fun b hb=>hk b hb.2.2.2.2.2
 refine ⟨h.below.setCell (p:=⟨xb,i,none⟩) (by show w0.heap.size≤xb;omega) u,h.src.keep (fun b hb=>hk b (by omega)),h.scp.keep (hk _ (by omega)),h.nms.keep (hk _ (by omega)),h.res.keep (hk _ (by omega)),h.prg.keep (hk _ (by omega)),?_,h.alt,?_,h.fn.keep (hk _ (by omega)),h.fp.imp up kp (fun _ _ _ r=>r),h.fl.imp up kp (fun _ _ _ r=>r),h.fbd.imp up kp (fun _ _ _ r=>RStmt.imp up kp _ r),o⟩
 ·refine ⟨h.arr.len,h.arr.each,?_,fun i h1 h2=>h.arr.elems i h1 h2⟩
  exact h.arr.row.kept (grown_own_set X xb i u) (by
   cases e:(.slice A1 p.arrays.length c1:Value).ownBlock with
   |none=>exact .inl rfl
   |some q=>exact .inr (fun e2=>by have:=h.alt q e;have:=sj e2;omega))
 ·exact h.funs.keep (mono_func 8) (h.funs.row.kept (grown_own_set X xb i u) (.inr (fun e2=>by have e3:gF=xb:=sj e2;omega))) up kp (fun k e hk=>hk.2.2.1 (by have h3:gF=k:=(by simpa [Value.ownBlock] using e);exact h3.symm))
theorem WIn.step (h:WIn D n w0 X fr p f x rb sb cb g2 lo B1 B3 gF pb fb xb A1 Ap Al Ab Ax At Ae c1 c2 np nl nb cp cl cb' nx nt ne cx ct ce css1 css) (hg:X.grownBy Y (some sb)) (hs:SrcAt Y sb):WIn D n w0 Y fr p f x rb sb cb g2 lo B1 B3 gF pb fb xb A1 Ap Al Ab Ax At Ae c1 c2 np nl nb cp cl cb' nx nt ne cx ct ce css1 css:=by
 have o:=h.pre.ord
 have q3:=o.h3;have q4:=o.h4;have q5:=o.h5;have q6:=o.h6;have q7:=o.h7;have q8:=o.h8;have q9:=o.h9;have q10:=o.h10;have q11:=o.h11
 have up:=okW.up (lo:=lo) (gF:=gF) (pb:=pb) (fb:=fb) (xb:=xb) hg.size
 have kp:Keeps (okW lo gF pb fb xb X) X Y:=fun b hb=>hg.block b hb.2.1 (fun e=>by have:=sj e;have:=hb.1;omega)
 exact ⟨h.pre.step hg hs,h.st.grown hg (fun e=>by have:=sj e;omega),RStmt.imp up kp _ h.str,h.cnt⟩
def scW:Scp:=⟨[⟨#[120]⟩,⟨#[112]⟩],[],[]⟩
theorem scW_ok:ScOk scW:=⟨(fun _ h=>by cases h),by decide,by decide,by decide⟩
theorem WPre.sc (h:WPre w0 X fr p f rb sb cb g2 lo B1 B3 gF pb fb xb A1 Ap Al Ab c1 c2 np nl nb cp cl cb' css1 css):ScAt X sb scW (some ⟨g2,0,none⟩) none none 2 0 0:=by
 have o:=h.ord
 have q3:=o.h3
 refine ⟨?_,SlR.nil_ _ _ _ _,SlR.nil_ _ _ _ _⟩
 exact SlR.lit (l:=scW.vars) [[.string ⟨#[120]⟩],[.string ⟨#[112]⟩]] h.nms rfl ⟨⟨rfl,rfl⟩,⟨rfl,rfl⟩,trivial⟩ rfl ⟨h.nms.lt,by omega⟩ (by decide)
theorem cnt_one (d:Nat) (x:LStmt) (lp:Bool) (h1:x.thn=[]) (h2:x.els=[]):(allL d [x] lp).length≤1:=by
 cases d with
 |zero=>exact Nat.zero_le _
 |succ d=>
  show ([x].flatMap fun s=>(s,lp) :: (allL d s.thn (lp || decide (s.kind=4))++allL d s.els lp)).length≤1
  have hn:∀lp,allL d [] lp=[]:=fun lp=>by cases d <;> rfl
  simp [h1,h2,hn]
theorem cnt_wrap {n:Nat} {x y:LStmt} (h:∀(d:Nat) (lp:Bool),(allL d [x] lp).length≤n) (hy:(y.thn=[x]∧y.els=[])∨(y.thn=[]∧y.els=[x])) (d:Nat) (lp:Bool):(allL d [y] lp).length≤n+1:=by
 cases d with
 |zero=>exact Nat.zero_le _
 |succ d=>
  show ([y].flatMap fun s=>(s,lp) :: (allL d s.thn (lp || decide (s.kind=4))++allL d s.els lp)).length≤n+1
  have hn:∀lp,allL d [] lp=[]:=fun lp=>by cases d <;> rfl
  rcases hy with ⟨h1,h2⟩|⟨h1,h2⟩
  ·have:=h d (lp || decide (y.kind=4))
   simp [h1,h2,hn];omega
  ·have:=h d lp
   simp [h1,h2,hn];omega
theorem WIn.wrap {V:World} {y:LStmt} {gx ny ct' ce' nt' ne' cy:Nat} {At' Ae' Ay:Option Addr} (h:WIn D n w0 X fr p f x rb sb cb g2 lo B1 B3 gF pb fb xb A1 Ap Al Ab Ax At Ae c1 c2 np nl nb cp cl cb' nx nt ne cx ct ce css1 css) (hx:xb<X.heap.size)
  (hg:X.grownBy V (some sb)) (hs:SrcAt V sb) (hgx:X.heap.size≤gx) (hxb:Blk V gx 45 #[.int .i64 x.kind,.string x.name,.slice Ax nx cx,.slice At nt ct,.slice Ae ne ce])
  (ha:SlR V (okW lo gF pb fb xb V) 5 (RExpr (D+1) V (okW lo gF pb fb xb V)) (.slice Ay ny cy) y.args)
  (hy:(y.thn=[x]∧y.els=[]∧(.slice At' nt' ct':Value)=.slice (some ⟨gx,0,none⟩) 1 1∧(.slice Ae' ne' ce':Value)=.slice none 0 0)∨(y.thn=[]∧y.els=[x]∧(.slice At' nt' ct':Value)=.slice none 0 0∧(.slice Ae' ne' ce':Value)=.slice (some ⟨gx,0,none⟩) 1 1)) :
  WIn (D+1) (n+1) w0 (((((V.setCell ⟨xb,0,none⟩ (.int .i64 y.kind)).setCell ⟨xb,1,none⟩ (.string y.name)).setCell ⟨xb,2,none⟩ (.slice Ay ny cy)).setCell ⟨xb,3,none⟩ (.slice At' nt' ct')).setCell ⟨xb,4,none⟩ (.slice Ae' ne' ce')) fr p f y rb sb cb g2 lo B1 B3 gF pb fb xb A1 Ap Al Ab Ay At' Ae' c1 c2 np nl nb cp cl cb' ny nt' ne' cy ct' ce' css1 css:=by
 have h2:=h.step hg hs
 have o:=h.pre.ord
 have q6:=o.h6;have q7:=o.h7;have q8:=o.h8;have q9:=o.h9;have q10:=o.h10;have q11:=o.h11
 have hpre:=(((((h2.pre.setx 0 (.int .i64 y.kind)).setx 1 (.string y.name)).setx 2 (.slice Ay ny cy)).setx 3 (.slice At' nt' ct')).setx 4 (.slice Ae' ne' ce'))
 have hst:=(((((h2.st.set_ 0 (.int .i64 y.kind)).set_ 1 (.string y.name)).set_ 2 (.slice Ay ny cy)).set_ 3 (.slice At' nt' ct')).set_ 4 (.slice Ae' ne' ce'))
 have hok:okW lo gF pb fb xb V gx:=⟨by omega,hxb.lt,by omega,by omega,by omega,by omega⟩
 have hone:SlR V (okW lo gF pb fb xb V) 5 (RStmt D V (okW lo gF pb fb xb V)) (.slice (some ⟨gx,0,none⟩) 1 1) [x]:=
  SlR.lit (l:=[x]) [stmtCells x (.slice Ax nx cx) (.slice At nt ct) (.slice Ae ne ce)] hxb rfl ⟨⟨rfl,h2.str⟩,trivial⟩ rfl hok (by decide)
 have hthn:SlR V (okW lo gF pb fb xb V) 5 (RStmt D V (okW lo gF pb fb xb V)) (.slice At' nt' ct') y.thn:=by
  rcases hy with ⟨e1,_,e3,_⟩|⟨e1,_,e3,_⟩
  ·rw [e1,e3];exact hone
  ·rw [e1,e3];exact SlR.nil_ _ _ _ _
 have hels:SlR V (okW lo gF pb fb xb V) 5 (RStmt D V (okW lo gF pb fb xb V)) (.slice Ae' ne' ce') y.els:=by
  rcases hy with ⟨_,e2,_,e4⟩|⟨_,e2,_,e4⟩
  ·rw [e2,e4];exact SlR.nil_ _ _ _ _
  ·rw [e2,e4];exact hone
 have hrow:RStmt (D+1) V (okW lo gF pb fb xb V) (stmtCells y (.slice Ay ny cy) (.slice At' nt' ct') (.slice Ae' ne' ce')) y:=⟨_,_,_,rfl,ha,hthn,hels⟩
 generalize hZ:((((V.setCell ⟨xb,0,none⟩ (.int .i64 y.kind)).setCell ⟨xb,1,none⟩ (.string y.name)).setCell ⟨xb,2,none⟩ (.slice Ay ny cy)).setCell ⟨xb,3,none⟩ (.slice At' nt' ct')).setCell ⟨xb,4,none⟩ (.slice Ae' ne' ce')=Z at *
 have hZs:Z.heap.size=V.heap.size:=by rw [←hZ];simp [World.setCell]
 have hZk:∀b,b≠xb→Z.heap[b]?=V.heap[b]?:=fun b hb=>by
  rw [←hZ]
  exact (bhs _ ⟨xb,4,none⟩ _ b hb).trans ((bhs _ ⟨xb,3,none⟩ _ b hb).trans ((bhs _ ⟨xb,2,none⟩ _ b hb).trans ((bhs _ ⟨xb,1,none⟩ _ b hb).trans (bhs _ ⟨xb,0,none⟩ _ b hb))))
 refine ⟨hpre,hst,RStmt.imp (fun b hb=>⟨hb.1,by rw [hZs];exact hb.2.1,hb.2.2⟩) (fun b hb=>hZk b hb.2.2.2.2.2) _ hrow,cnt_wrap h.cnt ?_⟩
 rcases hy with ⟨e1,e2,_⟩|⟨e1,e2,_⟩
 ·exact .inl ⟨e1,e2⟩
 ·exact .inr ⟨e1,e2⟩
def okO (gF fb rb:Nat) (X:World) (b:Nat):Prop:=b<X.heap.size∧b≠gF∧b≠fb∧b≠rb
structure WOut (K:Nat) (w0 X:World) (as_:List (ByteArray × Int)) (fs:List LFunc) (f:LFunc) (x:LStmt) (rb gF pb fb xb B3:Nat) (A1 Ap Al Ab Ax At Ae:Option Addr) (na nf c1 c2 np nl nb cp cl cb' nx nt ne cx ct ce:Nat) (css:List (List Value)):Prop where
 below:Below w0.heap.size w0 X
 res:Blk X rb 27 #[.slice none 0 0,.slice none 0 0]
 prg:Blk X pb 27 #[.slice A1 na c1,.slice (some ⟨gF,0,none⟩) nf c2]
 arr:SlR X (okO gF fb rb X) 2 RArr (.slice A1 na c1) as_
 funs:OwnX X (okO gF fb rb X) B3 49 4 (RFuncM 70) (.slice (some ⟨gF,0,none⟩) nf c2) fs css
 fn:Blk X fb 49 #[.string f.name,.slice Ap np cp,.slice Al nl cl,.slice Ab nb cb']
 fp:SlR X (okO gF fb rb X) 1 RStr (.slice Ap np cp) f.params
 fl:SlR X (okO gF fb rb X) 1 RStr (.slice Al nl cl) f.locals
 fbd:SlR X (okO gF fb rb X) 5 (RStmt 70 X (okO gF fb rb X)) (.slice Ab nb cb') f.body
 st:Blk X xb 45 #[.int .i64 x.kind,.string x.name,.slice Ax nx cx,.slice At nt ct,.slice Ae ne ce]
 str:RStmt 70 X (okO gF fb rb X) (stmtCells x (.slice Ax nx cx) (.slice At nt ct) (.slice Ae ne ce)) x
 ord:w0.heap.size≤rb∧rb<B3∧B3≤gF∧gF<pb∧pb<fb∧fb<xb∧xb<X.heap.size
 few:as_.length≤3∧f.params.length≤8∧f.locals.length≤6∧(allL 70 f.body false).length≤K∧(allL 70 [x] false).length≤100
variable {K B:Nat} {as_:List (ByteArray × Int)} {fs:List LFunc} {na nf:Nat}
theorem okO.up (hs:X.heap.size≤Y.heap.size):∀b,okO gF fb rb X b→okO gF fb rb Y b:=fun _ hb=>⟨ltle hb.1 hs,hb.2⟩
theorem WOut.below_ (h:WOut K w0 X as_ fs f x rb gF pb fb xb B A1 Ap Al Ab Ax At Ae na nf c1 c2 np nl nb cp cl cb' nx nt ne cx ct ce css) (hb:Below X.heap.size X Y):WOut K w0 Y as_ fs f x rb gF pb fb xb B A1 Ap Al Ab Ax At Ae na nf c1 c2 np nl nb cp cl cb' nx nt ne cx ct ce css:=by
 have o:=h.ord
 have up:=okO.up (gF:=gF) (fb:=fb) (rb:=rb) hb.size
 have kp:Keeps (okO gF fb rb X) X Y:=fun b hq=>hb.block b hq.1
 have hs:=hb.size
 exact ⟨h.below.trans (hb.mono h.below.size),h.res.below hb h.res.lt,h.prg.below hb h.prg.lt,h.arr.imp up kp (fun _ _ _ r=>r),h.funs.below (mono_func 70) hb (fun b hq=>hq.1) up (fun k e hk=>hk.2.1 (by have h3:gF=k:=(by simpa [Value.ownBlock] using e);exact h3.symm)),h.fn.below hb h.fn.lt,h.fp.imp up kp (fun _ _ _ r=>r),h.fl.imp up kp (fun _ _ _ r=>r),h.fbd.imp up kp (fun _ _ _ r=>RStmt.imp up kp _ r),h.st.below hb h.st.lt,RStmt.imp up kp _ h.str,⟨o.1,o.2.1,o.2.2.1,o.2.2.2.1,o.2.2.2.2.1,o.2.2.2.2.2.1,by omega⟩,h.few⟩
theorem RFunc.upF {d d':Nat} {w:World} {ok:Nat→Prop} {cs:List Value} {f:LFunc} (h:RFunc d w ok cs f) (hd:d≤d'):RFunc d' w ok cs f:=by
 obtain ⟨vp,vl,vb,e,h1,h2,h3⟩:=h
 exact ⟨vp,vl,vb,e,h1,h2,h3.imp (fun _ h=>h) (Keeps.refl _ _) fun _ _ _ r=>RStmt.up d hd r⟩
theorem WIn.out_gen {A':Option Addr} {na' c':Nat} (h:WIn D n w0 X fr p f x rb sb cb g2 lo B1 B3 gF pb fb xb A1 Ap Al Ab Ax At Ae c1 c2 np nl nb cp cl cb' nx nt ne cx ct ce css1 css) (hD:D≤70) (hf:as_.length≤3∧f.params.length≤8∧f.locals.length≤6∧(allL 70 f.body false).length≤K) (hn:n≤100)
  (hb:Below w0.heap.size w0 Y) (hs:X.heap.size≤Y.heap.size) (hk:∀b,b<X.heap.size→(b=rb∨b=gF∨b=fb∨b=xb∨okW lo gF pb fb xb X b)→Y.heap[b]?=X.heap[b]?) (hp:Blk Y pb 27 #[.slice A' na' c',.slice (some ⟨gF,0,none⟩) p.funcs.length c2]) (ha:SlR Y (okO gF fb rb Y) 2 RArr (.slice A' na' c') as_) :
  WOut K w0 Y as_ p.funcs f x rb gF pb fb xb B3 A' Ap Al Ab Ax At Ae na' p.funcs.length c' c2 np nl nb cp cl cb' nx nt ne cx ct ce css:=by
 have o:=h.pre.ord
 have q1:=o.h1;have q2:=o.h2;have q3:=o.h3;have q4:=o.h4;have q5:=o.h5;have q6:=o.h6;have q7:=o.h7;have q8:=o.h8;have q9:=o.h9;have q10:=o.h10;have q11:=o.h11
 have hxl:=h.st.lt
 have up:∀b,okW lo gF pb fb xb X b→okO gF fb rb Y b:=fun b hb=>⟨by have:=hb.2.1;omega,hb.2.2.1,hb.2.2.2.2.1,by have:=hb.1;omega⟩
 have kp:Keeps (okW lo gF pb fb xb X) X Y:=fun b hb=>hk b hb.2.1 (.inr (.inr (.inr (.inr hb))))
 refine ⟨hb,h.pre.res.keep (hk rb (by omega) (.inl rfl)),hp,ha,?_,h.pre.fn.keep (hk fb (by omega) (.inr (.inr (.inl rfl)))),h.pre.fp.imp up kp (fun _ _ _ r=>r),h.pre.fl.imp up kp (fun _ _ _ r=>r),h.pre.fbd.imp up kp (fun _ _ _ r=>RStmt.up 8 (by decide) (RStmt.imp up kp _ r)),h.st.keep (hk xb hxl (.inr (.inr (.inr (.inl rfl))))),RStmt.up D hD (RStmt.imp up kp _ h.str),⟨q1,by omega,q8,q9,q10,q11,by omega⟩,hf.1,hf.2.1,hf.2.2.1,hf.2.2.2,Nat.le_trans (h.cnt 70 false) hn⟩
 refine ⟨h.pre.funs.len,h.pre.funs.each,?_,fun i h1 h2=>RFunc.upF (RFunc.imp (h.pre.funs.elems i h1 h2) up kp) (by decide),fun g hg hk=>hk.2.1 (by have h3:gF=g:=(by simpa [Value.ownBlock] using hg);exact h3.symm)⟩
 refine ⟨h.pre.funs.row.1,?_⟩
 rcases h.pre.funs.row.2 with hn2|⟨g,cap,cur,hv,hb2,hg,rest⟩
 ·exact .inl hn2
 ·refine .inr ⟨g,cap,cur,hv,hb2,?_,rest⟩
  obtain rfl:gF=g:=by injection hv with e _ _;injection e with e;injection e
  rw [hk gF (by omega) (.inr (.inl rfl))]
  exact hg
theorem WIn.out (h:WIn D n w0 X fr p f x rb sb cb g2 lo B1 B3 gF pb fb xb A1 Ap Al Ab Ax At Ae c1 c2 np nl nb cp cl cb' nx nt ne cx ct ce css1 css) (hD:D≤70) (hf:p.arrays.length≤3∧f.params.length≤8∧f.locals.length≤6∧(allL 70 f.body false).length≤K) (hn:n≤100) :
  WOut K w0 X p.arrays p.funcs f x rb gF pb fb xb B3 A1 Ap Al Ab Ax At Ae p.arrays.length p.funcs.length c1 c2 np nl nb cp cl cb' nx nt ne cx ct ce css:=by
 have o:=h.pre.ord
 have q1:=o.h1;have q2:=o.h2;have q3:=o.h3;have q4:=o.h4;have q5:=o.h5;have q6:=o.h6;have q7:=o.h7;have q8:=o.h8;have q9:=o.h9;have q10:=o.h10;have q11:=o.h11
 exact h.out_gen hD hf hn h.pre.below (Nat.le_refl _) (fun _ _ _=>rfl) h.pre.prg (SlR.of_own h.pre.arr.row rfl h.pre.arr.len h.pre.arr.each (fun i h1 h2=>h.pre.arr.elems i h1 h2) (fun g hg=>⟨(h.pre.arr.row.lt g hg).2,by have:=h.pre.alt g hg;omega,by have:=h.pre.alt g hg;omega,by have:=(h.pre.arr.row.lt g hg).1;omega⟩))
theorem WOut.putf {f':LFunc} {K' np' nl' nb' cp' cl' cb2:Nat} {Ap' Al' Ab':Option Addr} (h:WOut K w0 X as_ fs f x rb gF pb fb xb B A1 Ap Al Ab Ax At Ae na nf c1 c2 np nl nb cp cl cb' nx nt ne cx ct ce css) (i:Nat) (u:Value)
  (hc:(#[.string f.name,.slice Ap np cp,.slice Al nl cl,.slice Ab nb cb']:Array Value).setIfInBounds i u=#[.string f'.name,.slice Ap' np' cp',.slice Al' nl' cl',.slice Ab' nb' cb2]) (hp:SlR X (okO gF fb rb X) 1 RStr (.slice Ap' np' cp') f'.params) (hl:SlR X (okO gF fb rb X) 1 RStr (.slice Al' nl' cl') f'.locals) (hb:SlR X (okO gF fb rb X) 5 (RStmt 70 X (okO gF fb rb X)) (.slice Ab' nb' cb2) f'.body)
  (hf:f'.params.length≤8∧f'.locals.length≤6∧(allL 70 f'.body false).length≤K'):WOut K' w0 (X.setCell ⟨fb,i,none⟩ u) as_ fs f' x rb gF pb fb xb B A1 Ap' Al' Ab' Ax At Ae na nf c1 c2 np' nl' nb' cp' cl' cb2 nx nt ne cx ct ce css:=by
 have o:=h.ord
 have hsz:(X.setCell ⟨fb,i,none⟩ u).heap.size=X.heap.size:=by simp [World.setCell]
 have hk:∀b,b≠fb→(X.setCell ⟨fb,i,none⟩ u).heap[b]?=X.heap[b]?:=fun b hb=>bhs X ⟨fb,i,none⟩ u b hb
 have up:∀b,okO gF fb rb X b→okO gF fb rb (X.setCell ⟨fb,i,none⟩ u) b:=fun b hb=>⟨by rw [hsz];exact hb.1,hb.2⟩
 have kp:Keeps (okO gF fb rb X) X (X.setCell ⟨fb,i,none⟩ u):=fun b hb=>hk b hb.2.2.1
 refine ⟨h.below.setCell (p:=⟨fb,i,none⟩) (by show w0.heap.size≤fb;omega) u,h.res.keep (hk _ (by omega)),h.prg.keep (hk _ (by omega)),h.arr.imp up kp (fun _ _ _ r=>r),?_,hc▸h.fn.set_ i u,hp.imp up kp (fun _ _ _ r=>r),hl.imp up kp (fun _ _ _ r=>r),hb.imp up kp (fun _ _ _ r=>RStmt.imp up kp _ r),h.st.keep (hk _ (by omega)),RStmt.imp up kp _ h.str,⟨o.1,o.2.1,o.2.2.1,o.2.2.2.1,o.2.2.2.2.1,o.2.2.2.2.2.1,by rw [hsz];exact o.2.2.2.2.2.2⟩,h.few.1,hf.1,hf.2.1,hf.2.2,h.few.2.2.2.2⟩
 exact h.funs.keep (mono_func 70) (h.funs.row.kept (grown_own_set X fb i u) (.inr (fun e2=>by have e3:gF=fb:=sj e2;omega))) up kp (fun k e hk=>hk.2.1 (by have h3:gF=k:=(by simpa [Value.ownBlock] using e);exact h3.symm))
theorem WIn.arr_out {X2:World} {A':Option Addr} {c':Nat} {s:ByteArray} {sz:Int} (h:WIn D n w0 X2 fr p f x rb sb cb g2 lo B1 B3 gF pb fb xb A1 Ap Al Ab Ax At Ae c1 c2 np nl nb cp cl cb' nx nt ne cx ct ce css1 css) (hD:D≤70) (hf:p.arrays.length≤2∧f.params.length≤8∧f.locals.length≤6∧(allL 70 f.body false).length≤K) (hn:n≤100)
  (hm:na=p.arrays.length) (hown:Y.ownsRow B1 53 2 (.slice A' (na+1) c') (na+1) (css1.flatten++[.string s,.int .i64 sz])) (hgr:X2.grownBy Y (.slice A1 na c1:Value).ownBlock) (hat:∀g,(.slice A' (na+1) c':Value).ownBlock=some g→((.slice A1 na c1:Value).ownBlock=some g∨g=X2.heap.size)∧g<Y.heap.size) :
  WOut K w0 (Y.setCell ⟨pb,0,none⟩ (.slice A' (na+1) c')) (p.arrays++[(s,sz)]) p.funcs f x rb gF pb fb xb B3 A' Ap Al Ab Ax At Ae (na+1) p.funcs.length c' c2 np nl nb cp cl cb' nx nt ne cx ct ce css:=by
 subst hm
 have o:=h.pre.ord
 have q1:=o.h1;have q2:=o.h2;have q3:=o.h3;have q4:=o.h4;have q5:=o.h5;have q6:=o.h6;have q7:=o.h7;have q8:=o.h8;have q9:=o.h9;have q10:=o.h10;have q11:=o.h11
 have hxl:=h.st.lt
 have hvb:∀k,(.slice A1 p.arrays.length c1:Value).ownBlock=some k→B1≤k∧k<lo:=fun k e=>⟨(h.pre.arr.row.lt k e).1,h.pre.alt k e⟩
 have hk1:∀b,b<X2.heap.size→(b<B1∨lo≤b)→Y.heap[b]?=X2.heap[b]?:=fun b hb h2=>hgr.block b hb (fun e=>by have:=hvb b e.symm;omega)
 have hsz:(Y.setCell ⟨pb,0,none⟩ (.slice A' (p.arrays.length+1) c')).heap.size=Y.heap.size:=by simp [World.setCell]
 have hk2:∀b,b≠pb→(Y.setCell ⟨pb,0,none⟩ (.slice A' (p.arrays.length+1) c')).heap[b]?=Y.heap[b]?:=fun b hb=>bhs Y ⟨pb,0,none⟩ _ b hb
 have hg3:∀g,(.slice A' (p.arrays.length+1) c':Value).ownBlock=some g→g<Y.heap.size∧g≠gF∧g≠fb∧g≠rb∧g≠pb:=fun g e=>by
  obtain ⟨h1,h2⟩:=hat g e
  rcases h1 with h1|h1
  ·have:=hvb g h1;exact ⟨h2,by omega,by omega,by omega,by omega⟩
  ·exact ⟨h2,by omega,by omega,by omega,by omega⟩
 refine h.out_gen hD ⟨by rw [List.length_append,List.length_singleton];omega,hf.2.1,hf.2.2.1,hf.2.2.2⟩ hn ?_ (by rw [hsz];exact hgr.size) ?_ ?_ ?_
 ·exact (h.pre.below.grown hgr h.pre.below.size (fun k e=>by have:=hvb k e;omega)).setCell (p:=⟨pb,0,none⟩) (by show w0.heap.size≤pb;omega) _
 ·intro b hb hor
  have hor2:(b<B1∨lo≤b)∧b≠pb:=by
   rcases hor with rfl|rfl|rfl|rfl|hw
   ·exact ⟨.inl (by omega),by omega⟩
   ·exact ⟨.inr (by omega),by omega⟩
   ·exact ⟨.inr (by omega),by omega⟩
   ·exact ⟨.inr (by omega),by omega⟩
   ·exact ⟨.inr hw.1,hw.2.2.2.1⟩
  exact (hk2 b hor2.2).trans (hk1 b hb hor2.1)
 ·exact (h.pre.prg.keep (hk1 pb (by omega) (.inr (by omega)))).set_ 0 _
 ·have hrow:=hown.kept (grown_own_set Y pb 0 (.slice A' (p.arrays.length+1) c')) (by
   cases e:(.slice A' (p.arrays.length+1) c':Value).ownBlock with
   |none=>exact .inl rfl
   |some q=>exact .inr (fun e2=>(hg3 q e).2.2.2.2 (sj e2)))
  have hl:=h.pre.arr.len
  refine SlR.of_own (css:=css1++[[.string s,.int .i64 sz]]) (by rw [List.flatten_append,List.flatten_singleton];exact hrow) (by simp) (by simp [hl]) (fun cs hcs=>?_) (fun i a b=>?_) (fun g hg=>?_)
  ·rcases List.mem_append.1 hcs with h1|h1
   ·exact h.pre.arr.each cs h1
   ·rw [List.mem_singleton.1 h1];rfl
  ·by_cases hi:i<css1.length
   ·rw [List.getElem_append_left hi,List.getElem_append_left (by omega)]
    exact h.pre.arr.elems i hi (by omega)
   ·have hi2:i=css1.length:=by simp at a;omega
    subst hi2
    rw [List.getElem_append_right (by omega),List.getElem_append_right (by omega)]
    simp only [Nat.sub_self,hl,List.getElem_singleton]
    rfl
  ·obtain ⟨h1,h2,h3,h4,h5⟩:=hg3 g hg
   exact ⟨by rw [hsz];exact h1,h2,h3,h4⟩
def WildPost (w:World):Ending→World→Prop:=fun e w'=>
 ∃(q:LProg) (A1 A2:Option Addr) (c1 c2:Nat),e=.returned (.agg #[.slice A1 q.arrays.length c1,.slice A2 q.funcs.length c2])∧Below w.heap.size w w'∧
  SlR w' (· < w'.heap.size) 2 RArr (.slice A1 q.arrays.length c1) q.arrays∧SlR w' (· < w'.heap.size) 4 (RFunc 70 w' (· < w'.heap.size)) (.slice A2 q.funcs.length c2) q.funcs∧FewP 70 q
theorem wild_done {Z:World} {k:Nat} (h:WOut 10100 w0 X as_ fs f x rb gF pb fb xb B A1 Ap Al Ab Ax At Ae na nf c1 c2 np nl nb cp cl cb' nx nt ne cx ct ce css) (hna:na=as_.length) (hnf:nf=fs.length) (hk:k<fs.length) (hfs:fs.length≤3∧∀g∈fs,g.params.length≤6∧g.locals.length≤5∧(allL 70 g.body false).length≤10000)
  (hZ:(((((X.setCell ⟨gF,k*4,none⟩ (.string f.name)).setCell ⟨gF,k*4+1,none⟩ (.slice Ap np cp)).setCell ⟨gF,k*4+2,none⟩ (.slice Al nl cl)).setCell ⟨gF,k*4+3,none⟩ (.slice Ab nb cb')).setCell ⟨rb,0,none⟩ (.slice A1 na c1)).setCell ⟨rb,1,none⟩ (.slice (some ⟨gF,0,none⟩) nf c2)=Z) (e:Ending) (he:e=.returned (.agg #[.slice A1 na c1,.slice (some ⟨gF,0,none⟩) nf c2])):WildPost w0 e Z:=by
 have o:=h.ord
 have hg2:=(h.funs.row.lt gF rfl).2
 have h2:=OwnX.put4 (mono_func 70) h.funs hnf (j:=k) (c0:=.string f.name) (c1:=.slice Ap np cp) (c2:=.slice Al nl cl) (c3:=.slice Ab nb cb') (x:=f) (by rw [h.funs.len];exact hk) ⟨_,_,_,rfl,h.fp,h.fl,h.fbd⟩
 generalize hV:(((X.setCell ⟨gF,k*4,none⟩ (.string f.name)).setCell ⟨gF,k*4+1,none⟩ (.slice Ap np cp)).setCell ⟨gF,k*4+2,none⟩ (.slice Al nl cl)).setCell ⟨gF,k*4+3,none⟩ (.slice Ab nb cb')=V at h2 hZ
 have hVs:V.heap.size=X.heap.size:=by rw [←hV];simp [World.setCell]
 have hVk:∀b,b≠gF→V.heap[b]?=X.heap[b]?:=fun b hb=>by
  rw [←hV]
  exact (bhs _ ⟨gF,k*4+3,none⟩ _ b hb).trans ((bhs _ ⟨gF,k*4+2,none⟩ _ b hb).trans ((bhs _ ⟨gF,k*4+1,none⟩ _ b hb).trans (bhs _ ⟨gF,k*4,none⟩ _ b hb)))
 have hVb:Below w0.heap.size w0 V:=by
  rw [←hV]
  exact (((h.below.setCell (p:=⟨gF,k*4,none⟩) (by show w0.heap.size≤gF;omega) _).setCell (p:=⟨gF,k*4+1,none⟩) (by show w0.heap.size≤gF;omega) _).setCell (p:=⟨gF,k*4+2,none⟩) (by show w0.heap.size≤gF;omega) _).setCell (p:=⟨gF,k*4+3,none⟩) (by show w0.heap.size≤gF;omega) _
 have hZs:Z.heap.size=V.heap.size:=by rw [←hZ];simp [World.setCell]
 have hZk:∀b,b≠rb→Z.heap[b]?=V.heap[b]?:=fun b hb=>by
  rw [←hZ]
  exact (bhs _ ⟨rb,1,none⟩ _ b hb).trans (bhs _ ⟨rb,0,none⟩ _ b hb)
 have hZb:Below w0.heap.size w0 Z:=by
  rw [←hZ]
  exact (hVb.setCell (p:=⟨rb,0,none⟩) o.1 _).setCell (p:=⟨rb,1,none⟩) o.1 _
 have h3:SlR V (okR rb V) 4 (RFuncM 70 V (okR rb V)) (.slice (some ⟨gF,0,none⟩) nf c2) (fs.set k f):=
  h2.slr (mono_func 70) (fun b hb=>⟨by rw [hVs];exact hb.1,hb.2.2.2⟩) (fun g hg=>by have h3:gF=g:=(by simpa [Value.ownBlock] using hg);subst h3;exact ⟨by omega,by omega⟩)
 have up:∀b,okR rb V b→b<Z.heap.size:=fun b hb=>by have:=hb.1;omega
 have kp:Keeps (okR rb V) V Z:=fun b hb=>hZk b hb.2
 have h4:SlR Z (· < Z.heap.size) 4 (RFunc 70 Z (· < Z.heap.size)) (.slice (some ⟨gF,0,none⟩) nf c2) (fs.set k f):=h3.imp up kp fun _ _ _ r=>r.imp up kp
 have h6:SlR Z (· < Z.heap.size) 2 RArr (.slice A1 na c1) as_:=
  h.arr.imp (fun b hb=>by have:=hb.1;show b<Z.heap.size;omega) (fun b hb=>(hZk b hb.2.2.2).trans (hVk b hb.2.1)) fun _ _ _ r=>r
 refine ⟨⟨as_,fs.set k f⟩,A1,some ⟨gF,0,none⟩,c1,c2,?_,hZb,?_,?_,?_⟩
 ·rw [he,hna,hnf]
  show _=Ending.returned (.agg #[.slice A1 as_.length c1,.slice _ (fs.set k f).length c2])
  rw [List.length_set]
 ·rw [←hna];exact h6
 ·show SlR _ _ _ _ (.slice _ (fs.set k f).length c2) (fs.set k f)
  rw [List.length_set,←hnf];exact h4
 ·refine few_of (by show as_.length≤400;have:=h.few.1;omega) (by show (fs.set k f).length≤400;rw [List.length_set];have:=hfs.1;omega) (fun g hg=>?_)
  rcases List.mem_or_eq_of_mem_set hg with h1|h1
  ·have:=hfs.2 g h1;omega
  ·subst h1;have:=h.few;omega
theorem strs_out {base m c:Nat} {A:Option Addr} {l:List ByteArray} (hrow:X.ownsRow base 9 1 (.slice A m c) m (l.map encT)) (hg:gF<base) (hf:fb<base) (hr:rb<base):SlR X (okO gF fb rb X) 1 RStr (.slice A m c) l:=
 strs_of_own hrow (fun g hg2=>⟨(hrow.lt g hg2).2,by have:=(hrow.lt g hg2).1;omega,by have:=(hrow.lt g hg2).1;omega,by have:=(hrow.lt g hg2).1;omega⟩)
theorem WOut.body {base m c:Nat} {A:Option Addr} {bss:List (List Value)} (h:WOut 10000 w0 X as_ fs f x rb gF pb fb xb B A1 Ap Al Ab Ax At Ae na nf c1 c2 np nl nb cp cl cb' nx nt ne cx ct ce css) (hb:Below X.heap.size X Y) (hnb:nb=f.body.length)
  (q1:bss.length=f.body.length) (q2:∀cs∈bss,cs.length=5) (q3:∀(i:Nat) (a:i<bss.length) (b:i<f.body.length),RStmt 70 X (okO gF fb rb X) bss[i] f.body[i]) (hm:m=nb+1)
  (hrow:Y.ownsRow base 45 5 (.slice A m c) m (bss.flatten++[.int .i64 x.kind,.string x.name,.slice Ax nx cx,.slice At nt ct,.slice Ae ne ce])) (hbase:X.heap.size≤base) :
  WOut 10100 w0 (Y.setCell ⟨fb,3,none⟩ (.slice A m c)) as_ fs { f with body:=f.body++[x] } x rb gF pb fb xb B A1 Ap Al A Ax At Ae na nf c1 c2 np nl m cp cl c nx nt ne cx ct ce css:=by
 have o:=h.ord
 subst hm
 have h2:=h.below_ hb
 have up:=okO.up (gF:=gF) (fb:=fb) (rb:=rb) hb.size
 have kp:Keeps (okO gF fb rb X) X Y:=fun b hq=>hb.block b hq.1
 have hj:SlR Y (okO gF fb rb Y) 5 (RStmt 70 Y (okO gF fb rb Y)) (.slice A (nb+1) c) (f.body++[x]):=
  slr_joined (mono_stmt 70) (css:=bss) (dss:=[stmtCells x (.slice Ax nx cx) (.slice At nt ct) (.slice Ae ne ce)]) (n:=nb) (m:=1) (by rw [List.flatten_singleton];exact hrow) hnb rfl q1 rfl q2 (fun cs hcs=>by rw [List.mem_singleton.1 hcs];rfl) q3 (fun i a b=>by
   have hi:i=0:=by simpa using a
   subst hi
   exact h.str) up kp (fun g hg=>⟨(hrow.lt g hg).2,by have:=(hrow.lt g hg).1;omega,by have:=(hrow.lt g hg).1;omega,by have:=(hrow.lt g hg).1;omega⟩)
 refine h2.putf (f':={ f with body:=f.body++[x] }) 3 _ rfl h2.fp h2.fl hj ⟨h.few.2.1,h.few.2.2.1,?_⟩
 show (allL 70 (f.body++[x]) false).length≤10100
 rw [allL_append,List.length_append]
 have:=h.few
 omega
theorem WPre.make {Wp w':World} {k:Nat} (h0:Below w0.heap.size w0 Wp) (hscp:Blk Wp cb 61 #[.slice (some ⟨g2,0,none⟩) 2 2,.slice none 0 0,.slice none 0 0,.bool fr,.bool false]) (hnms:Blk Wp g2 9 #[.string ⟨#[120]⟩,.string ⟨#[112]⟩]) (hres:Blk Wp rb 27 #[.slice none 0 0,.slice none 0 0])
  (hbp:Below Wp.heap.size Wp w') (hin:ProgIn w' p A1 c1 gF c2 B3 lo css) (harr:OwnL w' B1 53 2 RArrM (.slice A1 p.arrays.length c1) p.arrays css1) (halt:∀k,(.slice A1 p.arrays.length c1:Value).ownBlock=some k→k<lo) (hlo:B1≤lo) (hB1:Wp.heap.size≤B1)
  (hg:w'.grownBy X (some sb)) (hs:SrcAt X sb) (hpb:w'.heap.size≤pb) (hfb:pb<fb) (hxb:X.heap.size≤xb)
  (hprg:Blk X pb 27 #[.slice A1 p.arrays.length c1,.slice (some ⟨gF,0,none⟩) p.funcs.length c2]) (hk:k<p.funcs.length) (hfn:Blk X fb 49 #[.string p.funcs[k].name,.slice Ap np cp,.slice Al nl cl,.slice Ab nb cb'])
  (hpar:SlR w' (okX lo w' (.slice (some ⟨gF,0,none⟩) p.funcs.length c2)) 1 RStr (.slice Ap np cp) p.funcs[k].params) (hloc:SlR w' (okX lo w' (.slice (some ⟨gF,0,none⟩) p.funcs.length c2)) 1 RStr (.slice Al nl cl) p.funcs[k].locals) (hbod:SlR w' (okX lo w' (.slice (some ⟨gF,0,none⟩) p.funcs.length c2)) 5 (RStmt 8 w' (okX lo w' (.slice (some ⟨gF,0,none⟩) p.funcs.length c2))) (.slice Ab nb cb') p.funcs[k].body)
  (h1:w0.heap.size≤rb) (h2:rb<sb) (h3:sb<g2) (h4:g2<cb):WPre w0 X fr p p.funcs[k] rb sb cb g2 lo B1 B3 gF pb fb xb A1 Ap Al Ab c1 c2 np nl nb cp cl cb' css1 css:=by
 have l1:=hscp.lt
 have l2:=hfn.lt
 have hgF:=hin.row.row.lt gF rfl
 have hbs:=hbp.size
 have hgs:=hg.size
 have hwp:=h0.size
 have hlow:=hin.low
 have hB3:=hgF.1
 have up:∀b,okX lo w' (.slice (some ⟨gF,0,none⟩) p.funcs.length c2) b→okW lo gF pb fb xb X b:=fun b hb=>⟨hb.1,by have:=hb.2.1;omega,fun e=>hb.2.2 (by rw [e];rfl),by have:=hb.2.1;omega,by have:=hb.2.1;omega,by have:=hb.2.1;omega⟩
 have kp:Keeps (okX lo w' (.slice (some ⟨gF,0,none⟩) p.funcs.length c2)) w' X:=fun b hb=>hg.block b hb.2.1 (fun e=>by have:=sj e;have:=hb.1;omega)
 have kb:∀b,b<Wp.heap.size→b≠sb→X.heap[b]?=Wp.heap[b]?:=fun b hb hne=>(hg.block b (by omega) (fun e=>hne (sj e))).trans (hbp.block b hb)
 refine ⟨(h0.trans (hbp.mono h0.size)).grown hg (by omega) (fun k e=>by have:=sj e;omega),hs,hscp.keep (kb _ l1 (by omega)),hnms.keep (kb _ (by omega) (by omega)),hres.keep (kb _ (by omega) (by omega)),hprg,?_,halt,?_,hfn,hpar.imp up kp (fun _ _ _ r=>r),hloc.imp up kp (fun _ _ _ r=>r),hbod.imp up kp (fun _ _ _ r=>RStmt.imp up kp _ r),⟨h1,h2,h3,h4,by omega,hlo,hlow,hB3,by omega,hfb,by omega⟩⟩
 ·exact harr.keep mono_arr (fun b hb=>hg.block b hb.2 (fun e=>by have:=sj e;have:=hb.1;omega)) hgs
 ·exact hin.row.grown (mono_func 8) hg (fun k e h2=>by have h3:gF=k:=(by simpa [Value.ownBlock] using e);have:=sj h2;omega) (fun b hb=>hb.2.1) (fun b hb e=>by have:=sj e;have:=hb.1;omega) up (fun k e hk=>hk.2.2.1 (by have h3:gF=k:=(by simpa [Value.ownBlock] using e);exact h3.symm))
theorem WIn.make {W1:World} {kd:Int} {nm:ByteArray} {P:LExpr→Prop} {l:List LExpr} (h:WPre w0 W1 fr p f rb sb cb g2 lo B1 B3 gF pb fb xb A1 Ap Al Ab c1 c2 np nl nb cp cl cb' css1 css) (hb:BoxS W1 sb X (xb+1) xb 45 #[.int .i64 kd,.string nm,.slice Ax nx cx,.slice none 0 0,.slice none 0 0] 5 P (.slice Ax nx cx) l) (hn:nx=l.length) :
  WIn 5 1 w0 X fr p f ⟨kd,nm,l,[],[]⟩ rb sb cb g2 lo B1 B3 gF pb fb xb A1 Ap Al Ab Ax none none c1 c2 np nl nb cp cl cb' nx 0 0 cx 0 0 css1 css:=by
 have o:=h.ord
 have q6:=o.h6;have q7:=o.h7;have q8:=o.h8;have q9:=o.h9;have q10:=o.h10;have q11:=o.h11
 subst hn
 obtain ⟨bss,hc⟩:=hb.own
 have hrow:=hc.slr (mono_expr 5)
 have up:∀b,(xb+1≤b∧b<X.heap.size)→okW lo gF pb fb xb X b:=fun b hq=>⟨by omega,hq.2,by omega,by omega,by omega,by omega⟩
 have hargs:SlR X (okW lo gF pb fb xb X) 5 (RExpr 5 X (okW lo gF pb fb xb X)) (.slice Ax l.length cx) l:=hrow.imp up (fun _ _=>rfl) fun _ _ _ r=>r.imp up (fun _ _=>rfl) 5
 exact ⟨h.step hb.gr hb.src,hb.blk,⟨_,_,_,rfl,hargs,SlR.nil_ _ _ _ _,SlR.nil_ _ _ _ _⟩,fun d lp=>cnt_one d _ lp rfl rfl⟩
theorem own_ne {W X:World} {T:TypeId} {sz m c:Nat} {A:Option Addr} {xs:List Value} (h:X.ownsRow W.heap.size T sz (.slice A m c) m xs) (hs:sb<W.heap.size):(.slice A m c:Value).ownBlock=none∨(.slice A m c:Value).ownBlock≠some sb:=by
 cases e:(.slice A m c:Value).ownBlock with
 |none=>exact .inl rfl
 |some q=>exact .inr (fun e2=>by have h3:=(h.lt q e).1;have h4:=sj e2;omega)
theorem own_grown {W X2 X3:World} {o:Obj} {T:TypeId} {sz m c:Nat} {A:Option Addr} {xs:List Value} (h:W.grownBy X2 (some sb)) (hrow:(X2.alloc o).ownsRow W.heap.size T sz (.slice A m c) m xs) (hg:(X2.alloc o).grownBy X3 (.slice A m c:Value).ownBlock) (_hs:sb<W.heap.size):W.grownBy X3 (some sb):=
 ⟨hg.os.trans h.os,hg.tape.trans h.tape,hg.output.trans h.output,Nat.le_trans h.size (Nat.le_trans (by simp) hg.size),fun k hk hne=>(hg.block k (by have:=h.size;simp;omega) (fun e=>by have:=(hrow.lt k e.symm).1;omega)).trans ((Below.heap_alloc X2 o k (by have:=h.size;omega)).trans (h.block k hk hne))⟩
theorem own_src {W X2 X3:World} {o:Obj} {T:TypeId} {sz m c:Nat} {A:Option Addr} {xs:List Value} (h:SrcAt X2 sb) (hrow:(X2.alloc o).ownsRow W.heap.size T sz (.slice A m c) m xs) (hg:(X2.alloc o).grownBy X3 (.slice A m c:Value).ownBlock) (hs:sb<W.heap.size):SrcAt X3 sb:=
 (h.below (below1 X2 o)).grown hg (fun k e=>by have:=(hrow.lt k e).1;omega)
theorem one_exprW {W V:World} {u:LExpr} {ga nu cu m d:Nat} {Au:Option Addr} (o:WOrd w0 rb sb cb g2 lo B1 B3 gF pb fb xb) (hx:xb<W.heap.size) (hb:Blk V ga 42 #[.int .i64 u.kind,.int .i64 u.op,.int .i64 u.n,.string u.name,.slice Au nu cu])
  (hu:RExpr m V (fun b=>W.heap.size≤b∧b<V.heap.size) (exprCells u (.slice Au nu cu)) u) (hm:m≤d) (hga:W.heap.size≤ga):SlR V (okW lo gF pb fb xb V) 5 (RExpr d V (okW lo gF pb fb xb V)) (.slice (some ⟨ga,0,none⟩) 1 1) [u]:=by
 have q6:=o.h6;have q7:=o.h7;have q8:=o.h8;have q9:=o.h9;have q10:=o.h10;have q11:=o.h11
 have up:∀b,(W.heap.size≤b∧b<V.heap.size)→okW lo gF pb fb xb V b:=fun b hq=>⟨by omega,hq.2,by omega,by omega,by omega,by omega⟩
 exact SlR.lit (l:=[u]) [exprCells u (.slice Au nu cu)] hb rfl ⟨⟨rfl,RExpr.up m hm (hu.imp up (fun _ _=>rfl) m)⟩,trivial⟩ rfl (up ga ⟨hga,hb.lt⟩) (by decide)
theorem int5_cell {g k:Nat} {T:TypeId} (h:Blk X g T #[.int .i64 0,.int .i64 (-1),.int .i64 1,.int .i64 1048576,.int .i64 1048577]) (hk:k<5):∃z:Int,X.cell? ⟨g,k,none⟩=some (.int .i64 z):=by
 rcases (by omega:k=0∨k=1∨k=2∨k=3∨k=4) with rfl|rfl|rfl|rfl|rfl
 ·exact ⟨_,h.cell 0⟩
 ·exact ⟨_,h.cell 1⟩
 ·exact ⟨_,h.cell 2⟩
 ·exact ⟨_,h.cell 3⟩
 ·exact ⟨_,h.cell 4⟩
theorem WOut.more {K':Nat} (h:WOut K w0 X as_ fs f x rb gF pb fb xb B A1 Ap Al Ab Ax At Ae na nf c1 c2 np nl nb cp cl cb' nx nt ne cx ct ce css) (hK:K≤K'):WOut K' w0 X as_ fs f x rb gF pb fb xb B A1 Ap Al Ab Ax At Ae na nf c1 c2 np nl nb cp cl cb' nx nt ne cx ct ce css:=
 ⟨h.below,h.res,h.prg,h.arr,h.funs,h.fn,h.fp,h.fl,h.fbd,h.st,h.str,h.ord,h.few.1,h.few.2.1,h.few.2.2.1,Nat.le_trans h.few.2.2.2.1 hK,h.few.2.2.2.2⟩
theorem body_lenW (d:Nat) (lp:Bool):∀l:List LStmt,l.length≤(allL (d+1) l lp).length
 |[]=>Nat.zero_le _
 |s :: r=>by
  have h:=body_lenW d lp r
  show (s :: r).length≤((s :: r).flatMap fun s=>(s,lp) :: (allL d s.thn (lp || decide (s.kind=4))++allL d s.els lp)).length
  rw [List.flatMap_cons,List.length_append,List.length_cons,List.length_cons]
  have h2:r.length≤(r.flatMap fun s=>(s,lp) :: (allL d s.thn (lp || decide (s.kind=4))++allL d s.els lp)).length:=h
  omega
theorem slr_lenW {α:Type} {w:World} {ok:Nat→Prop} {sz n c:Nat} {A:Option Addr} {R:List Value→α→Prop} {l:List α} (h:SlR w ok sz R (.slice A n c) l):n=l.length:=by
 obtain ⟨_,_,hv,_⟩:=h
 injection hv
theorem ob3 {fV:LFunc} (h:p.arrays.length≤2∧fV.params.length≤6∧fV.locals.length≤5∧(allL 70 fV.body false).length≤10000):p.arrays.length≤3∧fV.params.length≤8∧fV.locals.length≤6∧(allL 70 fV.body false).length≤10000:=⟨by omega,by omega,by omega,h.2.2.2⟩
theorem ob2 {fV:LFunc} (h:p.arrays.length≤2∧fV.params.length≤6∧fV.locals.length≤5∧(allL 70 fV.body false).length≤10000):p.arrays.length≤2∧fV.params.length≤8∧fV.locals.length≤6∧(allL 70 fV.body false).length≤10000:=⟨by omega,by omega,by omega,h.2.2.2⟩
def WAny (K:Nat) (w0 X:World) (fs:List LFunc) (rb gF pb fb xb B nf c2:Nat) (css:List (List Value)):Prop:=
 ∃(as_:List (ByteArray × Int)) (f:LFunc) (y:LStmt) (A1' Ap' Al' Ab' Ax' At' Ae':Option Addr) (na' e1 np' nl' nb' cp' cl' cb2 nx' nt' ne' cx' ct' ce':Nat),na'=as_.length∧WOut K w0 X as_ fs f y rb gF pb fb xb B A1' Ap' Al' Ab' Ax' At' Ae' na' nf e1 c2 np' nl' nb' cp' cl' cb2 nx' nt' ne' cx' ct' ce' css
theorem WOut.any {nf':Nat} (h:WOut K w0 X as_ fs f x rb gF pb fb xb B A1 Ap Al Ab Ax At Ae na nf c1 c2 np nl nb cp cl cb' nx nt ne cx ct ce css) (hn:na=as_.length) (hf:nf=nf'):WAny K w0 X fs rb gF pb fb xb B nf' c2 css:=by
 subst hf
 exact ⟨_,_,_,_,_,_,_,_,_,_,_,_,_,_,_,_,_,_,_,_,_,_,_,_,hn,h⟩
end
end Go.Proofs.YtmignlclfbaifaaGreat
namespace Go.Proofs.YtmignlclfbaifaaGreat
open Go.RowKit
set_option maxRecDepth 100000 in
set_option maxHeartbeats 8000000 in
theorem w3_any (cc:Code) (hc:(Tryz.f10.body.bind (regOf 22))=some cc) (Y:World) {w0:World} {fr:Bool} {p:LProg} {f:LFunc} {y:LStmt} {rb sb cb g2 lo B1 B3 gF pb fb xb na nf:Nat} {A1 Ap Al Ab Ax:Option Addr} {c1 c2 np nl nb cp cl cb' nx_ cx:Nat} {css1 css:List (List Value)} (hw:WIn 5 1 w0 Y fr p f y rb sb cb g2 lo B1 B3 gF pb fb xb A1 Ap Al Ab Ax none none c1 c2 np nl nb cp cl cb' nx_ 0 0 cx 0 0 css1 css) (hna:na=p.arrays.length) (hnf:nf=p.funcs.length)
  (hO:p.arrays.length≤2∧f.params.length≤6∧f.locals.length≤5∧(allL 70 f.body false).length≤10000) (Q:Exit→Act→World→Prop) (hQ:∀p (a:Act) t (v:Value) (w':World),Q (Exit.panic p) (a.put t v) w'→Q (Exit.panic p) a w') (aA aB aC aD aE aF aG aH aI aJ aK aL aM aN aO aP aQ aR aS aT aU aV aW aX aY aZ bA bB bC bD bE bF bG bH bI bJ bK bL bM bN bO bP bQ bR bS bT bU bV bW bX bY bZ cA cB cC cD cE cF cG cH cI cJ cK cL cM cN cO cP cQ cR cS cT cU cV cW cX cY cZ dA dB dC dD dE dF dG dH dI dJ dK dL dM dN dO dP dQ dR dS dU dV dW dX dY dZ eA eB eC eD eE eF eG eH eI eJ eK eL eM eN eO eP eQ eR eS eT eU eV eW eX eY eZ fA fB fC fD fE fF fG fH fI fJ fK fL fM fN fO fP fQ fR fS fT fU:Value)
  (hK:∀(fX fY fZ gA gB gD gE gG gH gI gJ gK gM:Value) (w':World),WAny 10000 w0 w' p.funcs rb gF pb fb xb B3 nf c2 css→Q .normal { tmps:=#[aA,aB,aC,.pointer (some ⟨sb,0,none⟩),aD,.pointer (some ⟨cb,0,none⟩),.pointer (some ⟨pb,0,none⟩),aE,aF,.pointer (some ⟨xb,0,none⟩),aG,aH,aI,aJ,aK,aL,aM,aN,aO,aP,aQ,aR,aS,aT,aU,aV,aW,aX,aY,aZ,bA,bB,bC,bD,bE,bF,bG,bH,bI,bJ,bK,bL,bM,bN,bO,bP,bQ,bR,bS,bT,bU,bV,bW,bX,bY,bZ,cA,cB,cC,cD,cE,cF,cG,cH,cI,cJ,cK,cL,cM,cN,cO,cP,cQ,cR,cS,cT,cU,cV,cW,cX,cY,cZ,dA,dB,dC,dD,dE,dF,dG,dH,dI,dJ,dK,fX,fY,fZ,gA,gB,gD,gE,gG,gH,gI,gJ,gK,gM,dZ,eA,eB,eC,eD,eE,eF,eG,eH,eI,eJ,eK,eL,eM,eN,eO,eP,eQ,eR,eS,eT,eU,eV,eW,eX,eY,eZ,fA,fB,fC,fD,fE,fF,fG,fH,fI,fJ,fK,fL,fM,fN,fO,fP,fQ,fR,fS,fT,fU],defers:=[] } w'):cc.wp Tryz.prog Q { tmps:=#[aA,aB,aC,.pointer (some ⟨sb,0,none⟩),aD,.pointer (some ⟨cb,0,none⟩),.pointer (some ⟨pb,0,none⟩),aE,aF,.pointer (some ⟨xb,0,none⟩),aG,aH,aI,aJ,aK,aL,aM,aN,aO,aP,aQ,aR,aS,aT,aU,aV,aW,aX,aY,aZ,bA,bB,bC,bD,bE,bF,bG,bH,bI,bJ,bK,bL,bM,bN,bO,bP,bQ,bR,bS,bT,bU,bV,bW,bX,bY,bZ,cA,cB,cC,cD,cE,cF,cG,cH,cI,cJ,cK,cL,cM,cN,cO,cP,cQ,cR,cS,cT,cU,cV,cW,cX,cY,cZ,dA,dB,dC,dD,dE,dF,dG,dH,dI,dJ,dK,dL,dM,dN,dO,dP,dQ,dR,dS,dU,dV,dW,dX,dY,dZ,eA,eB,eC,eD,eE,eF,eG,eH,eI,eJ,eK,eL,eM,eN,eO,eP,eQ,eR,eS,eT,eU,eV,eW,eX,eY,eZ,fA,fB,fC,fD,fE,fF,fG,fH,fI,fJ,fK,fL,fM,fN,fO,fP,fQ,fR,fS,fT,fU],defers:=[] } Y:=by
 have HKK:=Ω hK;have HQ:=Ω hQ
 have hcc:Tryz.f10.body.bind (regOf 22)=some cc:=hc
 simp only [Tryz.f10,regOf,Nat.reduceEqDiff,Option.bind_some,↓reduceIte,Option.none_or,Option.or_none,Option.some.injEq] at hcc
 subst hcc
 have HWY:=Ω hw;have HNA:=Ω hna;have HNF:=Ω hnf;have HOB:=Ω hO
 have HNAF:Hid (p.funcs.length=nf):=Ω hnf.symm
 clear hc hK hQ hw hna hnf hO
 obtain ⟨za,ha0,ha1,ha2,ha3⟩:=info_parts info_arr
 have hkna:na≤2:=by rw [HNA.out];exact HOB.out.1
 have HSL:Hid (sb<Y.heap.size):=Ω HWY.out.pre.src.lt
 have HXL:Hid (xb<Y.heap.size):=Ω HWY.out.st.lt
 have HOD:=Ω HWY.out.pre.ord
 have HPG:Hid (∀X,Y.grownBy X (some sb)→Blk X pb 27 #[.slice A1 na c1,.slice (some ⟨gF,0,none⟩) nf c2]):=Ω (fun X h=>by have q:=HWY.out.pre.prg.grown h (fun e=>by have h1:=sj e;have h2:=HOD.out.h3;have h3:=HOD.out.h4;have h4:=HOD.out.h5;have h5:=HOD.out.h6;have h6:=HOD.out.h7;have h7:=HOD.out.h8;have h8:=HOD.out.h9;omega);rw [←HNA.out,←HNF.out] at q;exact q)
 have SO:Hid (∀X,Y.grownBy X (some sb)→(fun X=>X.cell? ⟨pb,0,none⟩=some (.slice A1 na c1)) X):=Ω (fun X h=>(HPG.out X h).cell 0)
 have HRW:Hid (∀X,Y.grownBy X (some sb)→SrcAt X sb→X.ownsRow B1 53 2 (.slice A1 na c1) na css1.flatten):=Ω (fun X h hs=>by have q:=(HWY.out.step h hs).pre.arr.row;rw [←HNA.out] at q;exact q)
 go_upto_region 22 with fail
 refine wp_region_G 13 (fun X=>X.cell? ⟨pb,0,none⟩=some (.slice A1 na c1)) (SO.out _ (grown_below' (Below.refl _ _).drew)) ?_
 change GL _ _ _ _ _ 13 14 (Array.replicate 14 false) _ _
 have HG0:Hid (Y.grownBy Y.drew (some sb)):=Ω (grown_below' (Below.refl _ _).drew)
 have HT0:Hid (SrcAt Y.drew sb):=Ω (HWY.out.pre.src.below (Below.refl _ _).drew)
 obtain ⟨X0,hX0⟩:∃X0,Y.drew=X0:=⟨_,rfl⟩
 rw [hX0] at HG0 HT0 ⊢
 clear hX0
 refine gj 0 (.pointer (some ⟨pb,0,none⟩)) ?_ (hQ:=fun _ _ _ h=>HQ.out _ _ _ _ _ h)
 refine gS 1 (.slice A1 na c1) [13] ?_ ?_ (hQ:=fun _ _ _ h=>HQ.out _ _ _ _ _ h)
 ·intro w2 hSw;obtain g0:=hSw;go_simp
 refine gj 2 (.pointer (some ⟨sb,0,none⟩)) ?_ (hQ:=fun _ _ _ h=>HQ.out _ _ _ _ _ h)
 refine gj 5 (.pointer (some ⟨sb,0,none⟩)) ?_ (hQ:=fun _ _ _ h=>HQ.out _ _ _ _ _ h)
 refine gR (rs:=[3,4]) ?_
 refine gC (fun K hK=>?_) (gC (fun K hK=>?_) AllReadyL.nil)
 ·go_simp
  refine (odd_any X0 sb HT0.out).mono ?_
  rintro e X1 ⟨⟨s1,rfl⟩,hs,hg⟩
  have HG1:=Ω (HG0.out.trans hg)
  have HT1:=Ω hs
  clear hs hg
  refine hK.out _ _ (SO.out _ HG1.out) ?_
  clear hK K
  try simp only [sG]
  refine gR (rs:=[4,6]) ?_
  refine gC (fun K hK=>?_) (gC (fun K hK=>?_) AllReadyL.nil)
  ·go_simp
   obtain ⟨X2,hXX⟩:∃Z,X1.alloc (.cells #[.int .i64 0,.int .i64 (-1),.int .i64 1,.int .i64 1048576,.int .i64 1048577] 3)=Z:=⟨_,rfl⟩
   rw [hXX]
   have hbl:Below X1.heap.size X1 X2:=by rw [←hXX];exact below1 _ _
   have hq:Blk X2 X1.heap.size 3 #[.int .i64 0,.int .i64 (-1),.int .i64 1,.int .i64 1048576,.int .i64 1048577]:=by rw [←hXX];exact Blk.new _ _ _
   obtain ⟨gi,hgg⟩:∃b,X1.heap.size=b:=⟨_,rfl⟩
   rw [hgg] at hq ⊢
   have HG2:=Ω (HG1.out.trans (grown_below' hbl))
   have HT2:=Ω (HT1.out.below hbl)
   have HI2:=Ω hq
   have HGI:Hid (Y.heap.size≤gi):=Ω (by rw [←hgg];exact HG1.out.size)
   clear hXX hbl hq hgg
   refine hK.out _ _ (SO.out _ HG2.out) ?_
   clear hK K
   try simp only [sG]
   refine gO 6 (fun K hK=>?_)
   go_simp
   refine (next_any X2 sb 5 (by omega) HT2.out).mono ?_
   rintro e X3 ⟨⟨kv,hkv,rfl⟩,hs,hg⟩
   have HG3:=Ω (HG2.out.trans hg)
   have HT3:=Ω hs
   have HI3:=Ω (HI2.out.grown hg (fun e=>by have h9:=sj e;have h8:=HGI.out;have h7:=HSL.out;omega))
   have hkv1:(kv:Int)<5:=by omega
   have hkv0:¬(kv:Int)<0:=by omega
   clear hs hg
   refine hK.out _ _ (SO.out _ HG3.out) ?_
   clear hK K
   try simp only [sG]
   refine gj 7 (.pointer (some ⟨gi,kv,none⟩)) ?_ (hQ:=fun _ _ _ h=>HQ.out _ _ _ _ _ h)
   obtain ⟨zz,hzz⟩:=int5_cell HI3.out hkv
   refine gO 8 (fun K hK=>?_)
   go_simp
   refine hK.out _ _ (SO.out _ HG3.out) ?_
   clear hK K
   try simp only [sG]
   refine gj 9 (.agg #[.string s1,.int .i64 zz]) ?_ (hQ:=fun _ _ _ h=>HQ.out _ _ _ _ _ h)
   refine gO 10 (fun K hK=>?_)
   go_simp
   obtain ⟨X4,hXX⟩:∃Z,X3.alloc (.cells #[.string s1,.int .i64 zz] 53)=Z:=⟨_,rfl⟩
   rw [hXX]
   have hbl:Below X3.heap.size X3 X4:=by rw [←hXX];exact below1 _ _
   have hq:Blk X4 X3.heap.size 53 #[.string s1,.int .i64 zz]:=by rw [←hXX];exact Blk.new _ _ _
   obtain ⟨ge,hgg⟩:∃b,X3.heap.size=b:=⟨_,rfl⟩
   rw [hgg] at hq ⊢
   have HG4:=Ω (HG3.out.trans (grown_below' hbl))
   have HT4:=Ω (HT3.out.below hbl)
   have HQE:=Ω hq
   clear hXX hbl hq hgg hzz
   refine hK.out _ _ (SO.out _ HG4.out) ?_
   clear hK K
   try simp only [sG]
   refine gO 11 (fun K hK=>?_)
   refine step_append_any _ (by rfl) _ _ _ (by rfl) B1 53 za _ 2 24 Tryz.underlying24 ha0 ha1 ha2 ha3 rfl (by omega) (.slice A1 na c1) na css1.flatten (by rfl) (HRW.out _ HG4.out HT4.out) (some ⟨ge,0,none⟩) 1 1 [.string s1,.int .i64 zz] (by rfl) rfl (.inr ⟨⟨ge,0,none⟩,rfl,World.news_of_block HQE.out⟩) (by simp [Value.oneCell']) (by unfold maxLen;omega) (by omega) (by have h1:=HG4.out.size;have h2:=HOD.out.h6;have h3:=HOD.out.h7;have h4:=HOD.out.h8;have h5:=HOD.out.h9;have h6:=HOD.out.h10;have h7:=HOD.out.h11;have h8:=HXL.out;omega) X4.heap.size rfl ?_
   intro v3 Z hown hgr hat
   obtain ⟨A3,c3,hv3⟩:=own_form hown
   subst hv3
   have hpy:Blk Z pb 27 #[.slice A1 na c1,.slice (some ⟨gF,0,none⟩) nf c2]:=(HPG.out _ HG4.out).grown hgr (fun e=>by have h0:=(HWY.out.pre.alt pb (by rw [←HNA.out];exact e));have h3:=HOD.out.h7;have h4:=HOD.out.h8;have h5:=HOD.out.h9;omega)
   have HPY:=Ω hpy;have HOW:=Ω hown;have HGR:=Ω hgr;have HAT:=Ω hat
   clear hown hgr hat hpy
   refine hK.out _ _ (HPY.out.cell 0) ?_
   clear hK K
   try simp only [sG]
   refine gj 12 (.pointer (some ⟨pb,0,none⟩)) ?_ (ht:=rfl) (hQ:=fun _ _ _ h=>HQ.out _ _ _ _ _ h)
   try simp only [sG]
   refine gL (fun K hK=>?_)
   have kc:=HPY.out.cell 0;have kz:=HPY.out.frozen 0
   go_simp
   refine hK.out _ _ ?_
   clear hK K
   try simp only [sG]
   have h:=WIn.arr_out (K:=10000) (HWY.out.step HG4.out HT4.out) (by decide) (ob2 HOB.out) (by decide) HNA.out HOW.out HGR.out HAT.out
   exact HKK.out _ _ _ _ _ _ _ _ _ _ _ _ _ _ (WOut.any h (by rw [List.length_append,List.length_singleton,←HNA.out]) HNAF.out)
  ·go_simp
   refine (next_any X1 sb 5 (by omega) HT1.out).mono ?_
   rintro e X2 ⟨⟨kv,hkv,rfl⟩,hs,hg⟩
   have HG2:=Ω (HG1.out.trans hg)
   have HT2:=Ω hs
   have hkv1:(kv:Int)<5:=by omega
   have hkv0:¬(kv:Int)<0:=by omega
   clear hs hg
   refine hK.out _ _ (SO.out _ HG2.out) ?_
   clear hK K
   try simp only [sG]
   refine gO 4 (fun K hK=>?_)
   go_simp
   obtain ⟨X3,hXX⟩:∃Z,X2.alloc (.cells #[.int .i64 0,.int .i64 (-1),.int .i64 1,.int .i64 1048576,.int .i64 1048577] 3)=Z:=⟨_,rfl⟩
   rw [hXX]
   have hbl:Below X2.heap.size X2 X3:=by rw [←hXX];exact below1 _ _
   have hq:Blk X3 X2.heap.size 3 #[.int .i64 0,.int .i64 (-1),.int .i64 1,.int .i64 1048576,.int .i64 1048577]:=by rw [←hXX];exact Blk.new _ _ _
   obtain ⟨gi,hgg⟩:∃b,X2.heap.size=b:=⟨_,rfl⟩
   rw [hgg] at hq ⊢
   have HG3:=Ω (HG2.out.trans (grown_below' hbl))
   have HT3:=Ω (HT2.out.below hbl)
   have HI3:=Ω hq
   have HGI:Hid (Y.heap.size≤gi):=Ω (by rw [←hgg];exact HG2.out.size)
   clear hXX hbl hq hgg
   refine hK.out _ _ (SO.out _ HG3.out) ?_
   clear hK K
   try simp only [sG]
   refine gj 7 (.pointer (some ⟨gi,kv,none⟩)) ?_ (hQ:=fun _ _ _ h=>HQ.out _ _ _ _ _ h)
   obtain ⟨zz,hzz⟩:=int5_cell HI3.out hkv
   refine gO 8 (fun K hK=>?_)
   go_simp
   refine hK.out _ _ (SO.out _ HG3.out) ?_
   clear hK K
   try simp only [sG]
   refine gj 9 (.agg #[.string s1,.int .i64 zz]) ?_ (hQ:=fun _ _ _ h=>HQ.out _ _ _ _ _ h)
   refine gO 10 (fun K hK=>?_)
   go_simp
   obtain ⟨X4,hXX⟩:∃Z,X3.alloc (.cells #[.string s1,.int .i64 zz] 53)=Z:=⟨_,rfl⟩
   rw [hXX]
   have hbl:Below X3.heap.size X3 X4:=by rw [←hXX];exact below1 _ _
   have hq:Blk X4 X3.heap.size 53 #[.string s1,.int .i64 zz]:=by rw [←hXX];exact Blk.new _ _ _
   obtain ⟨ge,hgg⟩:∃b,X3.heap.size=b:=⟨_,rfl⟩
   rw [hgg] at hq ⊢
   have HG4:=Ω (HG3.out.trans (grown_below' hbl))
   have HT4:=Ω (HT3.out.below hbl)
   have HQE:=Ω hq
   clear hXX hbl hq hgg hzz
   refine hK.out _ _ (SO.out _ HG4.out) ?_
   clear hK K
   try simp only [sG]
   refine gO 11 (fun K hK=>?_)
   refine step_append_any _ (by rfl) _ _ _ (by rfl) B1 53 za _ 2 24 Tryz.underlying24 ha0 ha1 ha2 ha3 rfl (by omega) (.slice A1 na c1) na css1.flatten (by rfl) (HRW.out _ HG4.out HT4.out) (some ⟨ge,0,none⟩) 1 1 [.string s1,.int .i64 zz] (by rfl) rfl (.inr ⟨⟨ge,0,none⟩,rfl,World.news_of_block HQE.out⟩) (by simp [Value.oneCell']) (by unfold maxLen;omega) (by omega) (by have h1:=HG4.out.size;have h2:=HOD.out.h6;have h3:=HOD.out.h7;have h4:=HOD.out.h8;have h5:=HOD.out.h9;have h6:=HOD.out.h10;have h7:=HOD.out.h11;have h8:=HXL.out;omega) X4.heap.size rfl ?_
   intro v3 Z hown hgr hat
   obtain ⟨A3,c3,hv3⟩:=own_form hown
   subst hv3
   have hpy:Blk Z pb 27 #[.slice A1 na c1,.slice (some ⟨gF,0,none⟩) nf c2]:=(HPG.out _ HG4.out).grown hgr (fun e=>by have h0:=(HWY.out.pre.alt pb (by rw [←HNA.out];exact e));have h3:=HOD.out.h7;have h4:=HOD.out.h8;have h5:=HOD.out.h9;omega)
   have HPY:=Ω hpy;have HOW:=Ω hown;have HGR:=Ω hgr;have HAT:=Ω hat
   clear hown hgr hat hpy
   refine hK.out _ _ (HPY.out.cell 0) ?_
   clear hK K
   try simp only [sG]
   refine gj 12 (.pointer (some ⟨pb,0,none⟩)) ?_ (ht:=rfl) (hQ:=fun _ _ _ h=>HQ.out _ _ _ _ _ h)
   try simp only [sG]
   refine gL (fun K hK=>?_)
   have kc:=HPY.out.cell 0;have kz:=HPY.out.frozen 0
   go_simp
   refine hK.out _ _ ?_
   clear hK K
   try simp only [sG]
   have h:=WIn.arr_out (K:=10000) (HWY.out.step HG4.out HT4.out) (by decide) (ob2 HOB.out) (by decide) HNA.out HOW.out HGR.out HAT.out
   exact HKK.out _ _ _ _ _ _ _ _ _ _ _ _ _ _ (WOut.any h (by rw [List.length_append,List.length_singleton,←HNA.out]) HNAF.out)
 ·go_simp
  obtain ⟨X1,hXX⟩:∃Z,X0.alloc (.cells #[.int .i64 0,.int .i64 (-1),.int .i64 1,.int .i64 1048576,.int .i64 1048577] 3)=Z:=⟨_,rfl⟩
  rw [hXX]
  have hbl:Below X0.heap.size X0 X1:=by rw [←hXX];exact below1 _ _
  have hq:Blk X1 X0.heap.size 3 #[.int .i64 0,.int .i64 (-1),.int .i64 1,.int .i64 1048576,.int .i64 1048577]:=by rw [←hXX];exact Blk.new _ _ _
  obtain ⟨gi,hgg⟩:∃b,X0.heap.size=b:=⟨_,rfl⟩
  rw [hgg] at hq ⊢
  have HG1:=Ω (HG0.out.trans (grown_below' hbl))
  have HT1:=Ω (HT0.out.below hbl)
  have HI1:=Ω hq
  have HGI:Hid (Y.heap.size≤gi):=Ω (by rw [←hgg];exact HG0.out.size)
  clear hXX hbl hq hgg
  refine hK.out _ _ (SO.out _ HG1.out) ?_
  clear hK K
  try simp only [sG]
  refine gO 3 (fun K hK=>?_)
  go_simp
  refine (odd_any X1 sb HT1.out).mono ?_
  rintro e X2 ⟨⟨s1,rfl⟩,hs,hg⟩
  have HG2:=Ω (HG1.out.trans hg)
  have HT2:=Ω hs
  have HI2:=Ω (HI1.out.grown hg (fun e=>by have h9:=sj e;have h8:=HGI.out;have h7:=HSL.out;omega))
  clear hs hg
  refine hK.out _ _ (SO.out _ HG2.out) ?_
  clear hK K
  try simp only [sG]
  refine gO 6 (fun K hK=>?_)
  go_simp
  refine (next_any X2 sb 5 (by omega) HT2.out).mono ?_
  rintro e X3 ⟨⟨kv,hkv,rfl⟩,hs,hg⟩
  have HG3:=Ω (HG2.out.trans hg)
  have HT3:=Ω hs
  have HI3:=Ω (HI2.out.grown hg (fun e=>by have h9:=sj e;have h8:=HGI.out;have h7:=HSL.out;omega))
  have hkv1:(kv:Int)<5:=by omega
  have hkv0:¬(kv:Int)<0:=by omega
  clear hs hg
  refine hK.out _ _ (SO.out _ HG3.out) ?_
  clear hK K
  try simp only [sG]
  refine gj 7 (.pointer (some ⟨gi,kv,none⟩)) ?_ (hQ:=fun _ _ _ h=>HQ.out _ _ _ _ _ h)
  obtain ⟨zz,hzz⟩:=int5_cell HI3.out hkv
  refine gO 8 (fun K hK=>?_)
  go_simp
  refine hK.out _ _ (SO.out _ HG3.out) ?_
  clear hK K
  try simp only [sG]
  refine gj 9 (.agg #[.string s1,.int .i64 zz]) ?_ (hQ:=fun _ _ _ h=>HQ.out _ _ _ _ _ h)
  refine gO 10 (fun K hK=>?_)
  go_simp
  obtain ⟨X4,hXX⟩:∃Z,X3.alloc (.cells #[.string s1,.int .i64 zz] 53)=Z:=⟨_,rfl⟩
  rw [hXX]
  have hbl:Below X3.heap.size X3 X4:=by rw [←hXX];exact below1 _ _
  have hq:Blk X4 X3.heap.size 53 #[.string s1,.int .i64 zz]:=by rw [←hXX];exact Blk.new _ _ _
  obtain ⟨ge,hgg⟩:∃b,X3.heap.size=b:=⟨_,rfl⟩
  rw [hgg] at hq ⊢
  have HG4:=Ω (HG3.out.trans (grown_below' hbl))
  have HT4:=Ω (HT3.out.below hbl)
  have HQE:=Ω hq
  clear hXX hbl hq hgg hzz
  refine hK.out _ _ (SO.out _ HG4.out) ?_
  clear hK K
  try simp only [sG]
  refine gO 11 (fun K hK=>?_)
  refine step_append_any _ (by rfl) _ _ _ (by rfl) B1 53 za _ 2 24 Tryz.underlying24 ha0 ha1 ha2 ha3 rfl (by omega) (.slice A1 na c1) na css1.flatten (by rfl) (HRW.out _ HG4.out HT4.out) (some ⟨ge,0,none⟩) 1 1 [.string s1,.int .i64 zz] (by rfl) rfl (.inr ⟨⟨ge,0,none⟩,rfl,World.news_of_block HQE.out⟩) (by simp [Value.oneCell']) (by unfold maxLen;omega) (by omega) (by have h1:=HG4.out.size;have h2:=HOD.out.h6;have h3:=HOD.out.h7;have h4:=HOD.out.h8;have h5:=HOD.out.h9;have h6:=HOD.out.h10;have h7:=HOD.out.h11;have h8:=HXL.out;omega) X4.heap.size rfl ?_
  intro v3 Z hown hgr hat
  obtain ⟨A3,c3,hv3⟩:=own_form hown
  subst hv3
  have hpy:Blk Z pb 27 #[.slice A1 na c1,.slice (some ⟨gF,0,none⟩) nf c2]:=(HPG.out _ HG4.out).grown hgr (fun e=>by have h0:=(HWY.out.pre.alt pb (by rw [←HNA.out];exact e));have h3:=HOD.out.h7;have h4:=HOD.out.h8;have h5:=HOD.out.h9;omega)
  have HPY:=Ω hpy;have HOW:=Ω hown;have HGR:=Ω hgr;have HAT:=Ω hat
  clear hown hgr hat hpy
  refine hK.out _ _ (HPY.out.cell 0) ?_
  clear hK K
  try simp only [sG]
  refine gj 12 (.pointer (some ⟨pb,0,none⟩)) ?_ (ht:=rfl) (hQ:=fun _ _ _ h=>HQ.out _ _ _ _ _ h)
  try simp only [sG]
  refine gL (fun K hK=>?_)
  have kc:=HPY.out.cell 0;have kz:=HPY.out.frozen 0
  go_simp
  refine hK.out _ _ ?_
  clear hK K
  try simp only [sG]
  have h:=WIn.arr_out (K:=10000) (HWY.out.step HG4.out HT4.out) (by decide) (ob2 HOB.out) (by decide) HNA.out HOW.out HGR.out HAT.out
  exact HKK.out _ _ _ _ _ _ _ _ _ _ _ _ _ _ (WOut.any h (by rw [List.length_append,List.length_singleton,←HNA.out]) HNAF.out)
set_option maxRecDepth 100000 in
set_option maxHeartbeats 8000000 in
theorem w4_any (cc:Code) (hc:(Tryz.f10.body.bind (regOf 24))=some cc) (Y:World) {w0:World} {fr:Bool} {p:LProg} {f:LFunc} {y:LStmt} {rb sb cb g2 lo B1 B3 gF pb fb xb na nf:Nat} {A1 Ap Al Ab Ax:Option Addr} {c1 c2 np nl nb cp cl cb' nx_ cx:Nat} {css1 css:List (List Value)} (hw:WIn 5 1 w0 Y fr p f y rb sb cb g2 lo B1 B3 gF pb fb xb A1 Ap Al Ab Ax none none c1 c2 np nl nb cp cl cb' nx_ 0 0 cx 0 0 css1 css) (hna:na=p.arrays.length) (hnf:nf=p.funcs.length)
  (hO:p.arrays.length≤2∧f.params.length≤6∧f.locals.length≤5∧(allL 70 f.body false).length≤10000) (Q:Exit→Act→World→Prop) (hQ:∀p (a:Act) t (v:Value) (w':World),Q (Exit.panic p) (a.put t v) w'→Q (Exit.panic p) a w') (aA aB aC aD aE aF aG aH aI aJ aK aL aM aN aO aP aQ aR aS aT aU aV aW aX aY aZ bA bB bC bD bE bF bG bH bI bJ bK bL bM bN bO bP bQ bR bS bT bU bV bW bX bY bZ cA cB cC cD cE cF cG cH cI cJ cK cL cM cN cO cP cQ cR cS cT cU cV cW cX cY cZ dA dB dC dD dE dF dG dH dI dJ dK dL dM dN dO dP dQ dR dS dU dV dW dX dY dZ eA eB eC eD eE eF eG eH eI eJ eK eL eM eN eO eP eQ eR eS eT eU eV eW eX eY eZ fA fB fC fD fE fF fG fH fI fJ fK fL fM fN fO fP fQ fR fS fT fU:Value)
  (hK:∀(gN gP gQ gT gU gV gW:Value) (w':World),WAny 10000 w0 w' p.funcs rb gF pb fb xb B3 nf c2 css→Q .normal { tmps:=#[aA,aB,aC,.pointer (some ⟨sb,0,none⟩),aD,.pointer (some ⟨cb,0,none⟩),.pointer (some ⟨pb,0,none⟩),aE,aF,.pointer (some ⟨xb,0,none⟩),aG,aH,aI,aJ,aK,aL,aM,aN,aO,aP,aQ,aR,aS,aT,aU,aV,aW,aX,aY,aZ,bA,bB,bC,bD,bE,bF,bG,bH,bI,bJ,bK,bL,bM,bN,bO,bP,bQ,bR,bS,bT,bU,bV,bW,bX,bY,bZ,cA,cB,cC,cD,cE,cF,cG,cH,cI,cJ,cK,cL,cM,cN,cO,cP,cQ,cR,cS,cT,cU,cV,cW,cX,cY,cZ,dA,dB,dC,dD,dE,dF,dG,dH,dI,dJ,dK,dL,dM,dN,dO,dP,dQ,dR,dS,dU,dV,dW,dX,dY,dZ,eA,gN,gP,gQ,gT,gU,gV,gW,eI,eJ,eK,eL,eM,eN,eO,eP,eQ,eR,eS,eT,eU,eV,eW,eX,eY,eZ,fA,fB,fC,fD,fE,fF,fG,fH,fI,fJ,fK,fL,fM,fN,fO,fP,fQ,fR,fS,fT,fU],defers:=[] } w'):cc.wp Tryz.prog Q { tmps:=#[aA,aB,aC,.pointer (some ⟨sb,0,none⟩),aD,.pointer (some ⟨cb,0,none⟩),.pointer (some ⟨pb,0,none⟩),aE,aF,.pointer (some ⟨xb,0,none⟩),aG,aH,aI,aJ,aK,aL,aM,aN,aO,aP,aQ,aR,aS,aT,aU,aV,aW,aX,aY,aZ,bA,bB,bC,bD,bE,bF,bG,bH,bI,bJ,bK,bL,bM,bN,bO,bP,bQ,bR,bS,bT,bU,bV,bW,bX,bY,bZ,cA,cB,cC,cD,cE,cF,cG,cH,cI,cJ,cK,cL,cM,cN,cO,cP,cQ,cR,cS,cT,cU,cV,cW,cX,cY,cZ,dA,dB,dC,dD,dE,dF,dG,dH,dI,dJ,dK,dL,dM,dN,dO,dP,dQ,dR,dS,dU,dV,dW,dX,dY,dZ,eA,eB,eC,eD,eE,eF,eG,eH,eI,eJ,eK,eL,eM,eN,eO,eP,eQ,eR,eS,eT,eU,eV,eW,eX,eY,eZ,fA,fB,fC,fD,fE,fF,fG,fH,fI,fJ,fK,fL,fM,fN,fO,fP,fQ,fR,fS,fT,fU],defers:=[] } Y:=by
 have HKK:=Ω hK;have HQ:=Ω hQ
 have hcc:Tryz.f10.body.bind (regOf 24)=some cc:=hc
 simp only [Tryz.f10,regOf,Nat.reduceEqDiff,Option.bind_some,↓reduceIte,Option.none_or,Option.or_none,Option.some.injEq] at hcc
 subst hcc
 have HWY:=Ω hw;have HNA:=Ω hna;have HNF:=Ω hnf;have HOB:=Ω hO
 have HNAF:Hid (p.funcs.length=nf):=Ω hnf.symm
 clear hc hK hQ hw hna hnf hO
 have HXL:Hid (xb<Y.heap.size):=Ω HWY.out.st.lt
 have HSL:Hid (sb<Y.heap.size):=Ω HWY.out.pre.src.lt
 have HOD:=Ω HWY.out.pre.ord
 have HSX_:Hid (∀X,Y.grownBy X (some sb)→Blk X xb 45 #[.int .i64 y.kind,.string y.name,.slice Ax nx_ cx,.slice none 0 0,.slice none 0 0]):=Ω (fun X h=>HWY.out.st.grown h (fun e=>by have h1:=sj e;have h2:=HOD.out.h3;have h3:=HOD.out.h4;have h4:=HOD.out.h5;have h5:=HOD.out.h6;have h6:=HOD.out.h7;have h7:=HOD.out.h8;have h8:=HOD.out.h9;have h9:=HOD.out.h10;have h10:=HOD.out.h11;omega))
 have SO:Hid (∀X,Y.grownBy X (some sb)→(fun X=>X.cell? ⟨xb,0,none⟩=some (.int .i64 y.kind)∧X.cell? ⟨xb,1,none⟩=some (.string y.name)∧X.cell? ⟨xb,2,none⟩=some (.slice Ax nx_ cx)∧X.cell? ⟨xb,3,none⟩=some (.slice none 0 0)∧X.cell? ⟨xb,4,none⟩=some (.slice none 0 0)∧X.cell? ⟨cb,0,none⟩=some (.slice (some ⟨g2,0,none⟩) 2 2)∧X.cell? ⟨cb,1,none⟩=some (.slice none 0 0)∧X.cell? ⟨cb,2,none⟩=some (.slice none 0 0)∧X.cell? ⟨cb,3,none⟩=some (.bool fr)∧X.cell? ⟨cb,4,none⟩=some (.bool false)) X):=Ω (fun X h=>have hq:=HWY.out.pre.scp.grown h (fun e=>by have h1:=sj e;have h2:=HOD.out.h3;have h3:=HOD.out.h4;omega);have hx:=HSX_.out X h;⟨hx.cell 0,hx.cell 1,hx.cell 2,hx.cell 3,hx.cell 4,hq.cell 0,hq.cell 1,hq.cell 2,hq.cell 3,hq.cell 4⟩)
 have HEX:Hid (∀X,Y.grownBy X (some sb)→SrcAt X sb→Calls Tryz.prog 24 #[.agg #[.slice (some ⟨g2,0,none⟩) 2 2,.slice none 0 0,.slice none 0 0,.bool fr,.bool false],.pointer (some ⟨sb,0,none⟩),.int .i64 3] X (ExprPost X sb scW 3)):=Ω (fun X hg hs=>(gen_all fr 3 (by decide) (by decide)).1 X sb scW (some ⟨g2,0,none⟩) none none 2 0 0 false hs (HWY.out.pre.sc.grown hg) scW_ok)
 go_upto_region 24 with fail
 refine wp_region_G 7 (fun X=>X.cell? ⟨xb,0,none⟩=some (.int .i64 y.kind)∧X.cell? ⟨xb,1,none⟩=some (.string y.name)∧X.cell? ⟨xb,2,none⟩=some (.slice Ax nx_ cx)∧X.cell? ⟨xb,3,none⟩=some (.slice none 0 0)∧X.cell? ⟨xb,4,none⟩=some (.slice none 0 0)∧X.cell? ⟨cb,0,none⟩=some (.slice (some ⟨g2,0,none⟩) 2 2)∧X.cell? ⟨cb,1,none⟩=some (.slice none 0 0)∧X.cell? ⟨cb,2,none⟩=some (.slice none 0 0)∧X.cell? ⟨cb,3,none⟩=some (.bool fr)∧X.cell? ⟨cb,4,none⟩=some (.bool false)) (SO.out _ (grown_below' (Below.refl _ _).drew)) ?_
 change GL _ _ _ _ _ 7 8 (Array.replicate 8 false) _ _
 have HG0:Hid (Y.grownBy Y.drew (some sb)):=Ω (grown_below' (Below.refl _ _).drew)
 have HT0:Hid (SrcAt Y.drew sb):=Ω (HWY.out.pre.src.below (Below.refl _ _).drew)
 obtain ⟨X0,hX0⟩:∃X0,Y.drew=X0:=⟨_,rfl⟩
 rw [hX0] at HG0 HT0 ⊢
 clear hX0
 refine gS 0 (.agg #[.slice (some ⟨g2,0,none⟩) 2 2,.slice none 0 0,.slice none 0 0,.bool fr,.bool false]) [7] ?_ ?_ (hQ:=fun _ _ _ h=>HQ.out _ _ _ _ _ h)
 ·intro w2 hSw;obtain ⟨g0,g1,g2_,g3,g4,g5,g6,g7,g8,g9⟩:=hSw;go_simp
 refine gj 1 (.pointer (some ⟨sb,0,none⟩)) ?_ (hQ:=fun _ _ _ h=>HQ.out _ _ _ _ _ h)
 refine gS 4 (.agg #[.int .i64 y.kind,.string y.name,.slice Ax nx_ cx,.slice none 0 0,.slice none 0 0]) [7] ?_ ?_ (hQ:=fun _ _ _ h=>HQ.out _ _ _ _ _ h)
 ·intro w2 hSw;obtain ⟨g0,g1,g2_,g3,g4,g5,g6,g7,g8,g9⟩:=hSw;go_simp
 refine gR (rs:=[2,5]) ?_
 refine gC (fun K hK=>?_) (gC (fun K hK=>?_) AllReadyL.nil)
 ·go_simp
  refine (HEX.out X0 HG0.out HT0.out).mono ?_
  intro e X1 hp
  obtain ⟨u,Au,cu,rfl,-,hx1,hs1,hg1⟩:=hp.new
  have HG1:=Ω (HG0.out.trans hg1)
  have HT1:=Ω hs1
  have HU1:Hid (RExpr 4 X1 (fun b=>Y.heap.size≤b∧b<X1.heap.size) (exprCells u (.slice Au u.args.length cu)) u):=Ω (hx1.imp (fun b hb=>⟨Nat.le_trans HG0.out.size hb.1,hb.2⟩) (fun _ _=>rfl) _)
  clear hp hx1 hs1 hg1
  refine hK.out _ _ (SO.out _ HG1.out) ?_
  clear hK K
  try simp only [sG]
  refine gR (rs:=[3,5]) ?_
  refine gC (fun K hK=>?_) (gC (fun K hK=>?_) AllReadyL.nil)
  ·go_simp
   obtain ⟨X2,hXX⟩:∃Z,X1.alloc (.cells #[.int .i64 u.kind,.int .i64 u.op,.int .i64 u.n,.string u.name,.slice Au u.args.length cu] 42)=Z:=⟨_,rfl⟩
   rw [hXX]
   have hbl:Below X1.heap.size X1 X2:=by rw [←hXX];exact below1 _ _
   have hq:Blk X2 X1.heap.size 42 #[.int .i64 u.kind,.int .i64 u.op,.int .i64 u.n,.string u.name,.slice Au u.args.length cu]:=by rw [←hXX];exact Blk.new _ _ _
   obtain ⟨ga,hgg⟩:∃b,X1.heap.size=b:=⟨_,rfl⟩
   rw [hgg] at hq ⊢
   have HG2:=Ω (HG1.out.trans (grown_below' hbl))
   have HT2:=Ω (HT1.out.below hbl)
   have HA2:=Ω hq
   have HGA:Hid (Y.heap.size≤ga):=Ω (by rw [←hgg];exact HG1.out.size)
   have HU2:Hid (RExpr 4 X2 (fun b=>Y.heap.size≤b∧b<X2.heap.size) (exprCells u (.slice Au u.args.length cu)) u):=Ω (HU1.out.imp (fun b hb=>⟨hb.1,ltle hb.2 hbl.size⟩) (fun b hb=>hbl.block b hb.2) _)
   clear hXX hbl hq hgg
   refine hK.out _ _ (SO.out _ HG2.out) ?_
   clear hK K
   try simp only [sG]
   refine gO 5 (fun K hK=>?_)
   go_simp
   obtain ⟨X3,hXX⟩:∃Z,X2.alloc (.cells #[.int .i64 y.kind,.string y.name,.slice Ax nx_ cx,.slice none 0 0,.slice none 0 0] 45)=Z:=⟨_,rfl⟩
   rw [hXX]
   have hbl:Below X2.heap.size X2 X3:=by rw [←hXX];exact below1 _ _
   have hq:Blk X3 X2.heap.size 45 #[.int .i64 y.kind,.string y.name,.slice Ax nx_ cx,.slice none 0 0,.slice none 0 0]:=by rw [←hXX];exact Blk.new _ _ _
   obtain ⟨gx,hgg⟩:∃b,X2.heap.size=b:=⟨_,rfl⟩
   rw [hgg] at hq ⊢
   have HG3:=Ω (HG2.out.trans (grown_below' hbl))
   have HT3:=Ω (HT2.out.below hbl)
   have HX3:=Ω hq
   have HGX:Hid (Y.heap.size≤gx):=Ω (by rw [←hgg];exact HG2.out.size)
   have HU3:Hid (RExpr 4 X3 (fun b=>Y.heap.size≤b∧b<X3.heap.size) (exprCells u (.slice Au u.args.length cu)) u):=Ω (HU2.out.imp (fun b hb=>⟨hb.1,ltle hb.2 hbl.size⟩) (fun b hb=>hbl.block b hb.2) _)
   have HA3:=Ω (HA2.out.below hbl HA2.out.lt)
   clear hXX hbl hq hgg
   refine hK.out _ _ (SO.out _ HG3.out) ?_
   clear hK K
   try simp only [sG]
   refine gj 6 (.agg #[.int .i64 3,.string ⟨#[]⟩,.slice (some ⟨ga,0,none⟩) 1 1,.slice none 0 0,.slice (some ⟨gx,0,none⟩) 1 1]) ?_ (hQ:=fun _ _ _ h=>HQ.out _ _ _ _ _ h)
   have hxq:=HSX_.out X3 HG3.out
   have x0_:=hxq.cell 0;have z0_:=hxq.frozen 0
   have x1_:=hxq.cell 1;have z1_:=hxq.frozen 1
   have x2_:=hxq.cell 2;have z2_:=hxq.frozen 2
   have x3_:=hxq.cell 3;have z3_:=hxq.frozen 3
   have x4_:=hxq.cell 4;have z4_:=hxq.frozen 4
   clear hxq
   refine gL (fun K hK=>?_)
   go_simp
   refine hK.out _ _ ?_
   clear hK K
   try simp only [sG]
   exact HKK.out _ _ _ _ _ _ _ _ (WOut.any ((HWY.out.wrap (V:=X3) (y:=⟨3,⟨#[]⟩,[u],[],[y]⟩) (At':=none) (nt':=0) (ct':=0) (Ae':=(some ⟨gx,0,none⟩)) (ne':=1) (ce':=1) (Ay:=some ⟨ga,0,none⟩) (ny:=1) (cy:=1) HXL.out HG3.out HT3.out HGX.out HX3.out (one_exprW HOD.out HXL.out HA3.out HU3.out (by decide) HGA.out) (.inr ⟨rfl,rfl,rfl,rfl⟩)).out (K:=10000) (by decide) (ob3 HOB.out) (by decide)) rfl HNAF.out)
  ·go_simp
   obtain ⟨X2,hXX⟩:∃Z,X1.alloc (.cells #[.int .i64 y.kind,.string y.name,.slice Ax nx_ cx,.slice none 0 0,.slice none 0 0] 45)=Z:=⟨_,rfl⟩
   rw [hXX]
   have hbl:Below X1.heap.size X1 X2:=by rw [←hXX];exact below1 _ _
   have hq:Blk X2 X1.heap.size 45 #[.int .i64 y.kind,.string y.name,.slice Ax nx_ cx,.slice none 0 0,.slice none 0 0]:=by rw [←hXX];exact Blk.new _ _ _
   obtain ⟨gx,hgg⟩:∃b,X1.heap.size=b:=⟨_,rfl⟩
   rw [hgg] at hq ⊢
   have HG2:=Ω (HG1.out.trans (grown_below' hbl))
   have HT2:=Ω (HT1.out.below hbl)
   have HX2:=Ω hq
   have HGX:Hid (Y.heap.size≤gx):=Ω (by rw [←hgg];exact HG1.out.size)
   have HU2:Hid (RExpr 4 X2 (fun b=>Y.heap.size≤b∧b<X2.heap.size) (exprCells u (.slice Au u.args.length cu)) u):=Ω (HU1.out.imp (fun b hb=>⟨hb.1,ltle hb.2 hbl.size⟩) (fun b hb=>hbl.block b hb.2) _)
   clear hXX hbl hq hgg
   refine hK.out _ _ (SO.out _ HG2.out) ?_
   clear hK K
   try simp only [sG]
   refine gO 3 (fun K hK=>?_)
   go_simp
   obtain ⟨X3,hXX⟩:∃Z,X2.alloc (.cells #[.int .i64 u.kind,.int .i64 u.op,.int .i64 u.n,.string u.name,.slice Au u.args.length cu] 42)=Z:=⟨_,rfl⟩
   rw [hXX]
   have hbl:Below X2.heap.size X2 X3:=by rw [←hXX];exact below1 _ _
   have hq:Blk X3 X2.heap.size 42 #[.int .i64 u.kind,.int .i64 u.op,.int .i64 u.n,.string u.name,.slice Au u.args.length cu]:=by rw [←hXX];exact Blk.new _ _ _
   obtain ⟨ga,hgg⟩:∃b,X2.heap.size=b:=⟨_,rfl⟩
   rw [hgg] at hq ⊢
   have HG3:=Ω (HG2.out.trans (grown_below' hbl))
   have HT3:=Ω (HT2.out.below hbl)
   have HA3:=Ω hq
   have HGA:Hid (Y.heap.size≤ga):=Ω (by rw [←hgg];exact HG2.out.size)
   have HU3:Hid (RExpr 4 X3 (fun b=>Y.heap.size≤b∧b<X3.heap.size) (exprCells u (.slice Au u.args.length cu)) u):=Ω (HU2.out.imp (fun b hb=>⟨hb.1,ltle hb.2 hbl.size⟩) (fun b hb=>hbl.block b hb.2) _)
   have HX3:=Ω (HX2.out.below hbl HX2.out.lt)
   clear hXX hbl hq hgg
   refine hK.out _ _ (SO.out _ HG3.out) ?_
   clear hK K
   try simp only [sG]
   refine gj 6 (.agg #[.int .i64 3,.string ⟨#[]⟩,.slice (some ⟨ga,0,none⟩) 1 1,.slice none 0 0,.slice (some ⟨gx,0,none⟩) 1 1]) ?_ (hQ:=fun _ _ _ h=>HQ.out _ _ _ _ _ h)
   have hxq:=HSX_.out X3 HG3.out
   have x0_:=hxq.cell 0;have z0_:=hxq.frozen 0
   have x1_:=hxq.cell 1;have z1_:=hxq.frozen 1
   have x2_:=hxq.cell 2;have z2_:=hxq.frozen 2
   have x3_:=hxq.cell 3;have z3_:=hxq.frozen 3
   have x4_:=hxq.cell 4;have z4_:=hxq.frozen 4
   clear hxq
   refine gL (fun K hK=>?_)
   go_simp
   refine hK.out _ _ ?_
   clear hK K
   try simp only [sG]
   exact HKK.out _ _ _ _ _ _ _ _ (WOut.any ((HWY.out.wrap (V:=X3) (y:=⟨3,⟨#[]⟩,[u],[],[y]⟩) (At':=none) (nt':=0) (ct':=0) (Ae':=(some ⟨gx,0,none⟩)) (ne':=1) (ce':=1) (Ay:=some ⟨ga,0,none⟩) (ny:=1) (cy:=1) HXL.out HG3.out HT3.out HGX.out HX3.out (one_exprW HOD.out HXL.out HA3.out HU3.out (by decide) HGA.out) (.inr ⟨rfl,rfl,rfl,rfl⟩)).out (K:=10000) (by decide) (ob3 HOB.out) (by decide)) rfl HNAF.out)
 ·go_simp
  obtain ⟨X1,hXX⟩:∃Z,X0.alloc (.cells #[.int .i64 y.kind,.string y.name,.slice Ax nx_ cx,.slice none 0 0,.slice none 0 0] 45)=Z:=⟨_,rfl⟩
  rw [hXX]
  have hbl:Below X0.heap.size X0 X1:=by rw [←hXX];exact below1 _ _
  have hq:Blk X1 X0.heap.size 45 #[.int .i64 y.kind,.string y.name,.slice Ax nx_ cx,.slice none 0 0,.slice none 0 0]:=by rw [←hXX];exact Blk.new _ _ _
  obtain ⟨gx,hgg⟩:∃b,X0.heap.size=b:=⟨_,rfl⟩
  rw [hgg] at hq ⊢
  have HG1:=Ω (HG0.out.trans (grown_below' hbl))
  have HT1:=Ω (HT0.out.below hbl)
  have HX1:=Ω hq
  have HGX:Hid (Y.heap.size≤gx):=Ω (by rw [←hgg];exact HG0.out.size)
  clear hXX hbl hq hgg
  refine hK.out _ _ (SO.out _ HG1.out) ?_
  clear hK K
  try simp only [sG]
  refine gO 2 (fun K hK=>?_)
  go_simp
  refine (HEX.out X1 HG1.out HT1.out).mono ?_
  intro e X2 hp
  obtain ⟨u,Au,cu,rfl,-,hx1,hs1,hg1⟩:=hp.new
  have HG2:=Ω (HG1.out.trans hg1)
  have HT2:=Ω hs1
  have HU2:Hid (RExpr 4 X2 (fun b=>Y.heap.size≤b∧b<X2.heap.size) (exprCells u (.slice Au u.args.length cu)) u):=Ω (hx1.imp (fun b hb=>⟨Nat.le_trans HG1.out.size hb.1,hb.2⟩) (fun _ _=>rfl) _)
  have HX2:=Ω (HX1.out.grown hg1 (fun e=>by have h9:=sj e;have h8:=HGX.out;have h7:=HSL.out;omega))
  clear hp hx1 hs1 hg1
  refine hK.out _ _ (SO.out _ HG2.out) ?_
  clear hK K
  try simp only [sG]
  refine gO 3 (fun K hK=>?_)
  go_simp
  obtain ⟨X3,hXX⟩:∃Z,X2.alloc (.cells #[.int .i64 u.kind,.int .i64 u.op,.int .i64 u.n,.string u.name,.slice Au u.args.length cu] 42)=Z:=⟨_,rfl⟩
  rw [hXX]
  have hbl:Below X2.heap.size X2 X3:=by rw [←hXX];exact below1 _ _
  have hq:Blk X3 X2.heap.size 42 #[.int .i64 u.kind,.int .i64 u.op,.int .i64 u.n,.string u.name,.slice Au u.args.length cu]:=by rw [←hXX];exact Blk.new _ _ _
  obtain ⟨ga,hgg⟩:∃b,X2.heap.size=b:=⟨_,rfl⟩
  rw [hgg] at hq ⊢
  have HG3:=Ω (HG2.out.trans (grown_below' hbl))
  have HT3:=Ω (HT2.out.below hbl)
  have HA3:=Ω hq
  have HGA:Hid (Y.heap.size≤ga):=Ω (by rw [←hgg];exact HG2.out.size)
  have HU3:Hid (RExpr 4 X3 (fun b=>Y.heap.size≤b∧b<X3.heap.size) (exprCells u (.slice Au u.args.length cu)) u):=Ω (HU2.out.imp (fun b hb=>⟨hb.1,ltle hb.2 hbl.size⟩) (fun b hb=>hbl.block b hb.2) _)
  have HX3:=Ω (HX2.out.below hbl HX2.out.lt)
  clear hXX hbl hq hgg
  refine hK.out _ _ (SO.out _ HG3.out) ?_
  clear hK K
  try simp only [sG]
  refine gj 6 (.agg #[.int .i64 3,.string ⟨#[]⟩,.slice (some ⟨ga,0,none⟩) 1 1,.slice none 0 0,.slice (some ⟨gx,0,none⟩) 1 1]) ?_ (hQ:=fun _ _ _ h=>HQ.out _ _ _ _ _ h)
  have hxq:=HSX_.out X3 HG3.out
  have x0_:=hxq.cell 0;have z0_:=hxq.frozen 0
  have x1_:=hxq.cell 1;have z1_:=hxq.frozen 1
  have x2_:=hxq.cell 2;have z2_:=hxq.frozen 2
  have x3_:=hxq.cell 3;have z3_:=hxq.frozen 3
  have x4_:=hxq.cell 4;have z4_:=hxq.frozen 4
  clear hxq
  refine gL (fun K hK=>?_)
  go_simp
  refine hK.out _ _ ?_
  clear hK K
  try simp only [sG]
  exact HKK.out _ _ _ _ _ _ _ _ (WOut.any ((HWY.out.wrap (V:=X3) (y:=⟨3,⟨#[]⟩,[u],[],[y]⟩) (At':=none) (nt':=0) (ct':=0) (Ae':=(some ⟨gx,0,none⟩)) (ne':=1) (ce':=1) (Ay:=some ⟨ga,0,none⟩) (ny:=1) (cy:=1) HXL.out HG3.out HT3.out HGX.out HX3.out (one_exprW HOD.out HXL.out HA3.out HU3.out (by decide) HGA.out) (.inr ⟨rfl,rfl,rfl,rfl⟩)).out (K:=10000) (by decide) (ob3 HOB.out) (by decide)) rfl HNAF.out)
set_option maxRecDepth 100000 in
set_option maxHeartbeats 8000000 in
theorem w6_any (cc:Code) (hc:(Tryz.f10.body.bind (thenOf 120))=some cc) (Y:World) {w0:World} {fr:Bool} {p:LProg} {f:LFunc} {y:LStmt} {rb sb cb g2 lo B1 B3 gF pb fb xb na nf:Nat} {A1 Ap Al Ab Ax:Option Addr} {c1 c2 np nl nb cp cl cb' nx_ cx:Nat} {css1 css:List (List Value)} (hw:WIn 5 1 w0 Y fr p f y rb sb cb g2 lo B1 B3 gF pb fb xb A1 Ap Al Ab Ax none none c1 c2 np nl nb cp cl cb' nx_ 0 0 cx 0 0 css1 css) (hna:na=p.arrays.length) (hnf:nf=p.funcs.length)
  (hO:p.arrays.length≤2∧f.params.length≤6∧f.locals.length≤5∧(allL 70 f.body false).length≤10000) (Q:Exit→Act→World→Prop) (hQ:∀p (a:Act) t (v:Value) (w':World),Q (Exit.panic p) (a.put t v) w'→Q (Exit.panic p) a w') (aA aB aC aD aE aF aG aH aI aJ aK aL aM aN aO aP aQ aR aS aT aU aV aW aX aY aZ bA bB bC bD bE bF bG bH bI bJ bK bL bM bN bO bP bQ bR bS bT bU bV bW bX bY bZ cA cB cC cD cE cF cG cH cI cJ cK cL cM cN cO cP cQ cR cS cT cU cV cW cX cY cZ dA dB dC dD dE dF dG dH dI dJ dK dL dM dN dO dP dQ dR dS dU dV dW dX dY dZ eA eB eC eD eE eF eG eH eI eJ eK eL eM eN eO eP eQ eR eS eT eU eV eW eX eY eZ fA fB fC fD fE fF fG fH fI fJ fK fL fM fN fO fP fQ fR fS fT fU:Value)
  (hK:∀(fW gX gY gZ hA hB hC hE hF hG hH hI hJ hL:Value) (w':World),WAny 10000 w0 w' p.funcs rb gF pb fb xb B3 nf c2 css→Q .normal { tmps:=#[aA,aB,aC,.pointer (some ⟨sb,0,none⟩),aD,.pointer (some ⟨cb,0,none⟩),.pointer (some ⟨pb,0,none⟩),aE,aF,.pointer (some ⟨xb,0,none⟩),aG,fW,aI,aJ,aK,aL,aM,aN,aO,aP,aQ,aR,aS,aT,aU,aV,aW,aX,aY,aZ,bA,bB,bC,bD,bE,bF,bG,bH,bI,bJ,bK,bL,bM,bN,bO,bP,bQ,bR,bS,bT,bU,bV,bW,bX,bY,bZ,cA,cB,cC,cD,cE,cF,cG,cH,cI,cJ,cK,cL,cM,cN,cO,cP,cQ,cR,cS,cT,cU,cV,cW,cX,cY,cZ,dA,dB,dC,dD,dE,dF,dG,dH,dI,dJ,dK,dL,dM,dN,dO,dP,dQ,dR,dS,dU,dV,dW,dX,dY,dZ,eA,eB,eC,eD,eE,eF,eG,eH,eI,eJ,eK,eL,eM,eN,eO,gX,gY,gZ,hA,hB,hC,hE,hF,hG,hH,hI,hJ,hL,fC,fD,fE,fF,fG,fH,fI,fJ,fK,fL,fM,fN,fO,fP,fQ,fR,fS,fT,fU],defers:=[] } w'):cc.wp Tryz.prog Q { tmps:=#[aA,aB,aC,.pointer (some ⟨sb,0,none⟩),aD,.pointer (some ⟨cb,0,none⟩),.pointer (some ⟨pb,0,none⟩),aE,aF,.pointer (some ⟨xb,0,none⟩),aG,aH,aI,aJ,aK,aL,aM,aN,aO,aP,aQ,aR,aS,aT,aU,aV,aW,aX,aY,aZ,bA,bB,bC,bD,bE,bF,bG,bH,bI,bJ,bK,bL,bM,bN,bO,bP,bQ,bR,bS,bT,bU,bV,bW,bX,bY,bZ,cA,cB,cC,cD,cE,cF,cG,cH,cI,cJ,cK,cL,cM,cN,cO,cP,cQ,cR,cS,cT,cU,cV,cW,cX,cY,cZ,dA,dB,dC,dD,dE,dF,dG,dH,dI,dJ,dK,dL,dM,dN,dO,dP,dQ,dR,dS,dU,dV,dW,dX,dY,dZ,eA,eB,eC,eD,eE,eF,eG,eH,eI,eJ,eK,eL,eM,eN,eO,eP,eQ,eR,eS,eT,eU,eV,eW,eX,eY,eZ,fA,fB,fC,fD,fE,fF,fG,fH,fI,fJ,fK,fL,fM,fN,fO,fP,fQ,fR,fS,fT,fU],defers:=[] } Y:=by
 have HKK:=Ω hK;have HQ:=Ω hQ
 have hcc:Tryz.f10.body.bind (thenOf 120)=some cc:=hc
 simp only [Tryz.f10,thenOf,Nat.reduceEqDiff,Option.bind_some,↓reduceIte,Option.none_or,Option.or_none,Option.some.injEq] at hcc
 subst hcc
 have HWY:=Ω hw;have HNA:=Ω hna;have HNF:=Ω hnf;have HOB:=Ω hO
 have HNAF:Hid (p.funcs.length=nf):=Ω hnf.symm
 clear hc hK hQ hw hna hnf hO
 go_upto_block 3 with (go_at_call 21;refine (next_any Y sb 60 (by omega) HWY.out.pre.src).mono ?_;rintro e V13 ⟨⟨kw,hkw,rfl⟩,hs,hg⟩;have HW3:=Ω (HWY.out.step hg hs);clear hs hg)
 have hkw9:kw≤59:=by omega
 go_wp2
 go_loopw [11] (fun a wr=>∃(i D nn:Nat) (y:LStmt) (Ax At Ae:Option Addr) (nx_ nt ne cx ct ce:Nat),a=.int .i64 (i:Int)∧5≤D∧D+i≤64∧nn+i≤60∧WIn D nn w0 wr fr p f y rb sb cb g2 lo B1 B3 gF pb fb xb A1 Ap Al Ab Ax At Ae c1 c2 np nl nb cp cl cb' nx_ nt ne cx ct ce css1 css) (fun a _=>(intOf a).toNat)
 case atStart=>exact ⟨kw,5,1,_,_,_,_,_,_,_,_,_,_,rfl,by omega,by omega,by omega,HW3.out⟩
 case round=>
  clear HW3 HWY
  obtain ⟨i,D,nn,y,Ax,At,Ae,nx_,nt,ne,cx,ct,ce,rfl,hD5,hD,hnn,hw⟩:=hrel
  have HW:=Ω hw
  have HDD:=Ω (And.intro hD5 (And.intro hD hnn))
  clear hw hD5 hD hnn
  obtain ⟨Vr,hVr⟩:∃v,v=wr:=⟨_,rfl⟩
  subst hVr
  rcases Nat.eq_zero_or_pos i with rfl|hi0
  case inr=>
   obtain ⟨j,hj⟩:∃j,i=j+1:=⟨i-1,by omega⟩
   have HJ:=Ω hj
   have d1:decide ((i:Int) > 0)=true:=dT (by omega)
   have d2:decide (0<(i:Int))=true:=dT (by omega)
   have hi64:i≤64:=by have:=HDD.out;omega
   clear hj
   have HXL:Hid (xb<Vr.heap.size):=Ω HW.out.st.lt
   have HSL:Hid (sb<Vr.heap.size):=Ω HW.out.pre.src.lt
   have HOD:=Ω HW.out.pre.ord
   have HSX_:Hid (∀X,Vr.grownBy X (some sb)→Blk X xb 45 #[.int .i64 y.kind,.string y.name,.slice Ax nx_ cx,.slice At nt ct,.slice Ae ne ce]):=Ω (fun X h=>HW.out.st.grown h (fun e=>by have h1:=sj e;have h2:=HOD.out.h3;have h3:=HOD.out.h4;have h4:=HOD.out.h5;have h5:=HOD.out.h6;have h6:=HOD.out.h7;have h7:=HOD.out.h8;have h8:=HOD.out.h9;have h9:=HOD.out.h10;have h10:=HOD.out.h11;omega))
   have SO:Hid (∀X,Vr.grownBy X (some sb)→(fun X=>X.cell? ⟨xb,0,none⟩=some (.int .i64 y.kind)∧X.cell? ⟨xb,1,none⟩=some (.string y.name)∧X.cell? ⟨xb,2,none⟩=some (.slice Ax nx_ cx)∧X.cell? ⟨xb,3,none⟩=some (.slice At nt ct)∧X.cell? ⟨xb,4,none⟩=some (.slice Ae ne ce)∧X.cell? ⟨cb,0,none⟩=some (.slice (some ⟨g2,0,none⟩) 2 2)∧X.cell? ⟨cb,1,none⟩=some (.slice none 0 0)∧X.cell? ⟨cb,2,none⟩=some (.slice none 0 0)∧X.cell? ⟨cb,3,none⟩=some (.bool fr)∧X.cell? ⟨cb,4,none⟩=some (.bool false)) X):=Ω (fun X h=>have hq:=HW.out.pre.scp.grown h (fun e=>by have h1:=sj e;have h2:=HOD.out.h3;have h3:=HOD.out.h4;omega);have hx:=HSX_.out X h;⟨hx.cell 0,hx.cell 1,hx.cell 2,hx.cell 3,hx.cell 4,hq.cell 0,hq.cell 1,hq.cell 2,hq.cell 3,hq.cell 4⟩)
   have HEX:Hid (∀X,Vr.grownBy X (some sb)→SrcAt X sb→Calls Tryz.prog 24 #[.agg #[.slice (some ⟨g2,0,none⟩) 2 2,.slice none 0 0,.slice none 0 0,.bool fr,.bool false],.pointer (some ⟨sb,0,none⟩),.int .i64 2] X (ExprPost X sb scW 2)):=Ω (fun X hg hs=>(gen_all fr 2 (by decide) (by decide)).1 X sb scW (some ⟨g2,0,none⟩) none none 2 0 0 false hs (HW.out.pre.sc.grown hg) scW_ok)
   go_upto_region 31 with fail
   refine wp_region_G 7 (fun X=>X.cell? ⟨xb,0,none⟩=some (.int .i64 y.kind)∧X.cell? ⟨xb,1,none⟩=some (.string y.name)∧X.cell? ⟨xb,2,none⟩=some (.slice Ax nx_ cx)∧X.cell? ⟨xb,3,none⟩=some (.slice At nt ct)∧X.cell? ⟨xb,4,none⟩=some (.slice Ae ne ce)∧X.cell? ⟨cb,0,none⟩=some (.slice (some ⟨g2,0,none⟩) 2 2)∧X.cell? ⟨cb,1,none⟩=some (.slice none 0 0)∧X.cell? ⟨cb,2,none⟩=some (.slice none 0 0)∧X.cell? ⟨cb,3,none⟩=some (.bool fr)∧X.cell? ⟨cb,4,none⟩=some (.bool false)) (SO.out _ (grown_below' (Below.refl _ _).drew)) ?_
   change GL _ _ _ _ _ 7 8 (Array.replicate 8 false) _ _
   have HG0:Hid (Vr.grownBy Vr.drew (some sb)):=Ω (grown_below' (Below.refl _ _).drew)
   have HT0:Hid (SrcAt Vr.drew sb):=Ω (HW.out.pre.src.below (Below.refl _ _).drew)
   obtain ⟨X0,hX0⟩:∃X0,Vr.drew=X0:=⟨_,rfl⟩
   rw [hX0] at HG0 HT0 ⊢
   clear hX0
   refine gS 0 (.agg #[.slice (some ⟨g2,0,none⟩) 2 2,.slice none 0 0,.slice none 0 0,.bool fr,.bool false]) [7] ?_ ?_ (hQ:=fun _ _ _ h=>HQ.out _ _ _ _ _ h)
   ·intro w2 hSw;obtain ⟨g0,g1,g2_,g3,g4,g5,g6,g7,g8,g9⟩:=hSw;go_simp
   refine gj 1 (.pointer (some ⟨sb,0,none⟩)) ?_ (hQ:=fun _ _ _ h=>HQ.out _ _ _ _ _ h)
   refine gS 4 (.agg #[.int .i64 y.kind,.string y.name,.slice Ax nx_ cx,.slice At nt ct,.slice Ae ne ce]) [7] ?_ ?_ (hQ:=fun _ _ _ h=>HQ.out _ _ _ _ _ h)
   ·intro w2 hSw;obtain ⟨g0,g1,g2_,g3,g4,g5,g6,g7,g8,g9⟩:=hSw;go_simp
   refine gR (rs:=[2,5]) ?_
   refine gC (fun K hK=>?_) (gC (fun K hK=>?_) AllReadyL.nil)
   ·go_simp
    refine (HEX.out X0 HG0.out HT0.out).mono ?_
    intro e X1 hp
    obtain ⟨u,Au,cu,rfl,-,hx1,hs1,hg1⟩:=hp.new
    have HG1:=Ω (HG0.out.trans hg1)
    have HT1:=Ω hs1
    have HU1:Hid (RExpr 3 X1 (fun b=>Vr.heap.size≤b∧b<X1.heap.size) (exprCells u (.slice Au u.args.length cu)) u):=Ω (hx1.imp (fun b hb=>⟨Nat.le_trans HG0.out.size hb.1,hb.2⟩) (fun _ _=>rfl) _)
    clear hp hx1 hs1 hg1
    refine hK.out _ _ (SO.out _ HG1.out) ?_
    clear hK K
    try simp only [sG]
    refine gR (rs:=[3,5]) ?_
    refine gC (fun K hK=>?_) (gC (fun K hK=>?_) AllReadyL.nil)
    ·go_simp
     obtain ⟨X2,hXX⟩:∃Z,X1.alloc (.cells #[.int .i64 u.kind,.int .i64 u.op,.int .i64 u.n,.string u.name,.slice Au u.args.length cu] 42)=Z:=⟨_,rfl⟩
     rw [hXX]
     have hbl:Below X1.heap.size X1 X2:=by rw [←hXX];exact below1 _ _
     have hq:Blk X2 X1.heap.size 42 #[.int .i64 u.kind,.int .i64 u.op,.int .i64 u.n,.string u.name,.slice Au u.args.length cu]:=by rw [←hXX];exact Blk.new _ _ _
     obtain ⟨ga,hgg⟩:∃b,X1.heap.size=b:=⟨_,rfl⟩
     rw [hgg] at hq ⊢
     have HG2:=Ω (HG1.out.trans (grown_below' hbl))
     have HT2:=Ω (HT1.out.below hbl)
     have HA2:=Ω hq
     have HGA:Hid (Vr.heap.size≤ga):=Ω (by rw [←hgg];exact HG1.out.size)
     have HU2:Hid (RExpr 3 X2 (fun b=>Vr.heap.size≤b∧b<X2.heap.size) (exprCells u (.slice Au u.args.length cu)) u):=Ω (HU1.out.imp (fun b hb=>⟨hb.1,ltle hb.2 hbl.size⟩) (fun b hb=>hbl.block b hb.2) _)
     clear hXX hbl hq hgg
     refine hK.out _ _ (SO.out _ HG2.out) ?_
     clear hK K
     try simp only [sG]
     refine gO 5 (fun K hK=>?_)
     go_simp
     obtain ⟨X3,hXX⟩:∃Z,X2.alloc (.cells #[.int .i64 y.kind,.string y.name,.slice Ax nx_ cx,.slice At nt ct,.slice Ae ne ce] 45)=Z:=⟨_,rfl⟩
     rw [hXX]
     have hbl:Below X2.heap.size X2 X3:=by rw [←hXX];exact below1 _ _
     have hq:Blk X3 X2.heap.size 45 #[.int .i64 y.kind,.string y.name,.slice Ax nx_ cx,.slice At nt ct,.slice Ae ne ce]:=by rw [←hXX];exact Blk.new _ _ _
     obtain ⟨gx,hgg⟩:∃b,X2.heap.size=b:=⟨_,rfl⟩
     rw [hgg] at hq ⊢
     have HG3:=Ω (HG2.out.trans (grown_below' hbl))
     have HT3:=Ω (HT2.out.below hbl)
     have HX3:=Ω hq
     have HGX:Hid (Vr.heap.size≤gx):=Ω (by rw [←hgg];exact HG2.out.size)
     have HU3:Hid (RExpr 3 X3 (fun b=>Vr.heap.size≤b∧b<X3.heap.size) (exprCells u (.slice Au u.args.length cu)) u):=Ω (HU2.out.imp (fun b hb=>⟨hb.1,ltle hb.2 hbl.size⟩) (fun b hb=>hbl.block b hb.2) _)
     have HA3:=Ω (HA2.out.below hbl HA2.out.lt)
     clear hXX hbl hq hgg
     refine hK.out _ _ (SO.out _ HG3.out) ?_
     clear hK K
     try simp only [sG]
     refine gj 6 (.agg #[.int .i64 4,.string ⟨#[]⟩,.slice (some ⟨ga,0,none⟩) 1 1,.slice (some ⟨gx,0,none⟩) 1 1,.slice none 0 0]) ?_ (hQ:=fun _ _ _ h=>HQ.out _ _ _ _ _ h)
     have hxq:=HSX_.out X3 HG3.out
     have x0_:=hxq.cell 0;have z0_:=hxq.frozen 0
     have x1_:=hxq.cell 1;have z1_:=hxq.frozen 1
     have x2_:=hxq.cell 2;have z2_:=hxq.frozen 2
     have x3_:=hxq.cell 3;have z3_:=hxq.frozen 3
     have x4_:=hxq.cell 4;have z4_:=hxq.frozen 4
     clear hxq
     refine gL (fun K hK=>?_)
     go_simp
     refine hK.out _ _ ?_
     clear hK K
     try simp only [sG]
     go_wp2
     go_roundw
     case rel=>
      exact ⟨j,D+1,nn+1,_,_,_,_,_,_,_,_,_,_,by have:=HJ.out;go_num,by have:=HDD.out;omega,by have:=HDD.out;have:=HJ.out;omega,by have:=HDD.out;have:=HJ.out;omega,HW.out.wrap (V:=X3) (y:=⟨4,⟨#[]⟩,[u],[y],[]⟩) (At':=(some ⟨gx,0,none⟩)) (nt':=1) (ct':=1) (Ae':=none) (ne':=0) (ce':=0) (Ay:=some ⟨ga,0,none⟩) (ny:=1) (cy:=1) HXL.out HG3.out HT3.out HGX.out HX3.out (one_exprW HOD.out HXL.out HA3.out HU3.out (by have:=HDD.out;omega) HGA.out) (.inl ⟨rfl,rfl,rfl,rfl⟩)⟩
     case measure=>simp [intOf];omega
    ·go_simp
     obtain ⟨X2,hXX⟩:∃Z,X1.alloc (.cells #[.int .i64 y.kind,.string y.name,.slice Ax nx_ cx,.slice At nt ct,.slice Ae ne ce] 45)=Z:=⟨_,rfl⟩
     rw [hXX]
     have hbl:Below X1.heap.size X1 X2:=by rw [←hXX];exact below1 _ _
     have hq:Blk X2 X1.heap.size 45 #[.int .i64 y.kind,.string y.name,.slice Ax nx_ cx,.slice At nt ct,.slice Ae ne ce]:=by rw [←hXX];exact Blk.new _ _ _
     obtain ⟨gx,hgg⟩:∃b,X1.heap.size=b:=⟨_,rfl⟩
     rw [hgg] at hq ⊢
     have HG2:=Ω (HG1.out.trans (grown_below' hbl))
     have HT2:=Ω (HT1.out.below hbl)
     have HX2:=Ω hq
     have HGX:Hid (Vr.heap.size≤gx):=Ω (by rw [←hgg];exact HG1.out.size)
     have HU2:Hid (RExpr 3 X2 (fun b=>Vr.heap.size≤b∧b<X2.heap.size) (exprCells u (.slice Au u.args.length cu)) u):=Ω (HU1.out.imp (fun b hb=>⟨hb.1,ltle hb.2 hbl.size⟩) (fun b hb=>hbl.block b hb.2) _)
     clear hXX hbl hq hgg
     refine hK.out _ _ (SO.out _ HG2.out) ?_
     clear hK K
     try simp only [sG]
     refine gO 3 (fun K hK=>?_)
     go_simp
     obtain ⟨X3,hXX⟩:∃Z,X2.alloc (.cells #[.int .i64 u.kind,.int .i64 u.op,.int .i64 u.n,.string u.name,.slice Au u.args.length cu] 42)=Z:=⟨_,rfl⟩
     rw [hXX]
     have hbl:Below X2.heap.size X2 X3:=by rw [←hXX];exact below1 _ _
     have hq:Blk X3 X2.heap.size 42 #[.int .i64 u.kind,.int .i64 u.op,.int .i64 u.n,.string u.name,.slice Au u.args.length cu]:=by rw [←hXX];exact Blk.new _ _ _
     obtain ⟨ga,hgg⟩:∃b,X2.heap.size=b:=⟨_,rfl⟩
     rw [hgg] at hq ⊢
     have HG3:=Ω (HG2.out.trans (grown_below' hbl))
     have HT3:=Ω (HT2.out.below hbl)
     have HA3:=Ω hq
     have HGA:Hid (Vr.heap.size≤ga):=Ω (by rw [←hgg];exact HG2.out.size)
     have HU3:Hid (RExpr 3 X3 (fun b=>Vr.heap.size≤b∧b<X3.heap.size) (exprCells u (.slice Au u.args.length cu)) u):=Ω (HU2.out.imp (fun b hb=>⟨hb.1,ltle hb.2 hbl.size⟩) (fun b hb=>hbl.block b hb.2) _)
     have HX3:=Ω (HX2.out.below hbl HX2.out.lt)
     clear hXX hbl hq hgg
     refine hK.out _ _ (SO.out _ HG3.out) ?_
     clear hK K
     try simp only [sG]
     refine gj 6 (.agg #[.int .i64 4,.string ⟨#[]⟩,.slice (some ⟨ga,0,none⟩) 1 1,.slice (some ⟨gx,0,none⟩) 1 1,.slice none 0 0]) ?_ (hQ:=fun _ _ _ h=>HQ.out _ _ _ _ _ h)
     have hxq:=HSX_.out X3 HG3.out
     have x0_:=hxq.cell 0;have z0_:=hxq.frozen 0
     have x1_:=hxq.cell 1;have z1_:=hxq.frozen 1
     have x2_:=hxq.cell 2;have z2_:=hxq.frozen 2
     have x3_:=hxq.cell 3;have z3_:=hxq.frozen 3
     have x4_:=hxq.cell 4;have z4_:=hxq.frozen 4
     clear hxq
     refine gL (fun K hK=>?_)
     go_simp
     refine hK.out _ _ ?_
     clear hK K
     try simp only [sG]
     go_wp2
     go_roundw
     case rel=>
      exact ⟨j,D+1,nn+1,_,_,_,_,_,_,_,_,_,_,by have:=HJ.out;go_num,by have:=HDD.out;omega,by have:=HDD.out;have:=HJ.out;omega,by have:=HDD.out;have:=HJ.out;omega,HW.out.wrap (V:=X3) (y:=⟨4,⟨#[]⟩,[u],[y],[]⟩) (At':=(some ⟨gx,0,none⟩)) (nt':=1) (ct':=1) (Ae':=none) (ne':=0) (ce':=0) (Ay:=some ⟨ga,0,none⟩) (ny:=1) (cy:=1) HXL.out HG3.out HT3.out HGX.out HX3.out (one_exprW HOD.out HXL.out HA3.out HU3.out (by have:=HDD.out;omega) HGA.out) (.inl ⟨rfl,rfl,rfl,rfl⟩)⟩
     case measure=>simp [intOf];omega
   ·go_simp
    obtain ⟨X1,hXX⟩:∃Z,X0.alloc (.cells #[.int .i64 y.kind,.string y.name,.slice Ax nx_ cx,.slice At nt ct,.slice Ae ne ce] 45)=Z:=⟨_,rfl⟩
    rw [hXX]
    have hbl:Below X0.heap.size X0 X1:=by rw [←hXX];exact below1 _ _
    have hq:Blk X1 X0.heap.size 45 #[.int .i64 y.kind,.string y.name,.slice Ax nx_ cx,.slice At nt ct,.slice Ae ne ce]:=by rw [←hXX];exact Blk.new _ _ _
    obtain ⟨gx,hgg⟩:∃b,X0.heap.size=b:=⟨_,rfl⟩
    rw [hgg] at hq ⊢
    have HG1:=Ω (HG0.out.trans (grown_below' hbl))
    have HT1:=Ω (HT0.out.below hbl)
    have HX1:=Ω hq
    have HGX:Hid (Vr.heap.size≤gx):=Ω (by rw [←hgg];exact HG0.out.size)
    clear hXX hbl hq hgg
    refine hK.out _ _ (SO.out _ HG1.out) ?_
    clear hK K
    try simp only [sG]
    refine gO 2 (fun K hK=>?_)
    go_simp
    refine (HEX.out X1 HG1.out HT1.out).mono ?_
    intro e X2 hp
    obtain ⟨u,Au,cu,rfl,-,hx1,hs1,hg1⟩:=hp.new
    have HG2:=Ω (HG1.out.trans hg1)
    have HT2:=Ω hs1
    have HU2:Hid (RExpr 3 X2 (fun b=>Vr.heap.size≤b∧b<X2.heap.size) (exprCells u (.slice Au u.args.length cu)) u):=Ω (hx1.imp (fun b hb=>⟨Nat.le_trans HG1.out.size hb.1,hb.2⟩) (fun _ _=>rfl) _)
    have HX2:=Ω (HX1.out.grown hg1 (fun e=>by have h9:=sj e;have h8:=HGX.out;have h7:=HSL.out;omega))
    clear hp hx1 hs1 hg1
    refine hK.out _ _ (SO.out _ HG2.out) ?_
    clear hK K
    try simp only [sG]
    refine gO 3 (fun K hK=>?_)
    go_simp
    obtain ⟨X3,hXX⟩:∃Z,X2.alloc (.cells #[.int .i64 u.kind,.int .i64 u.op,.int .i64 u.n,.string u.name,.slice Au u.args.length cu] 42)=Z:=⟨_,rfl⟩
    rw [hXX]
    have hbl:Below X2.heap.size X2 X3:=by rw [←hXX];exact below1 _ _
    have hq:Blk X3 X2.heap.size 42 #[.int .i64 u.kind,.int .i64 u.op,.int .i64 u.n,.string u.name,.slice Au u.args.length cu]:=by rw [←hXX];exact Blk.new _ _ _
    obtain ⟨ga,hgg⟩:∃b,X2.heap.size=b:=⟨_,rfl⟩
    rw [hgg] at hq ⊢
    have HG3:=Ω (HG2.out.trans (grown_below' hbl))
    have HT3:=Ω (HT2.out.below hbl)
    have HA3:=Ω hq
    have HGA:Hid (Vr.heap.size≤ga):=Ω (by rw [←hgg];exact HG2.out.size)
    have HU3:Hid (RExpr 3 X3 (fun b=>Vr.heap.size≤b∧b<X3.heap.size) (exprCells u (.slice Au u.args.length cu)) u):=Ω (HU2.out.imp (fun b hb=>⟨hb.1,ltle hb.2 hbl.size⟩) (fun b hb=>hbl.block b hb.2) _)
    have HX3:=Ω (HX2.out.below hbl HX2.out.lt)
    clear hXX hbl hq hgg
    refine hK.out _ _ (SO.out _ HG3.out) ?_
    clear hK K
    try simp only [sG]
    refine gj 6 (.agg #[.int .i64 4,.string ⟨#[]⟩,.slice (some ⟨ga,0,none⟩) 1 1,.slice (some ⟨gx,0,none⟩) 1 1,.slice none 0 0]) ?_ (hQ:=fun _ _ _ h=>HQ.out _ _ _ _ _ h)
    have hxq:=HSX_.out X3 HG3.out
    have x0_:=hxq.cell 0;have z0_:=hxq.frozen 0
    have x1_:=hxq.cell 1;have z1_:=hxq.frozen 1
    have x2_:=hxq.cell 2;have z2_:=hxq.frozen 2
    have x3_:=hxq.cell 3;have z3_:=hxq.frozen 3
    have x4_:=hxq.cell 4;have z4_:=hxq.frozen 4
    clear hxq
    refine gL (fun K hK=>?_)
    go_simp
    refine hK.out _ _ ?_
    clear hK K
    try simp only [sG]
    go_wp2
    go_roundw
    case rel=>
     exact ⟨j,D+1,nn+1,_,_,_,_,_,_,_,_,_,_,by have:=HJ.out;go_num,by have:=HDD.out;omega,by have:=HDD.out;have:=HJ.out;omega,by have:=HDD.out;have:=HJ.out;omega,HW.out.wrap (V:=X3) (y:=⟨4,⟨#[]⟩,[u],[y],[]⟩) (At':=(some ⟨gx,0,none⟩)) (nt':=1) (ct':=1) (Ae':=none) (ne':=0) (ce':=0) (Ay:=some ⟨ga,0,none⟩) (ny:=1) (cy:=1) HXL.out HG3.out HT3.out HGX.out HX3.out (one_exprW HOD.out HXL.out HA3.out HU3.out (by have:=HDD.out;omega) HGA.out) (.inl ⟨rfl,rfl,rfl,rfl⟩)⟩
    case measure=>simp [intOf];omega
  case inl=>
   go_wp2
   exact HKK.out _ _ _ _ _ _ _ _ _ _ _ _ _ _ _ (WOut.any (HW.out.out (K:=10000) (by have:=HDD.out;omega) (ob3 HOB.out) (by have:=HDD.out;omega)) rfl HNAF.out)
end Go.Proofs.YtmignlclfbaifaaGreat
