/- Programs of the generator, free or not: bounds, rows one's own, a function put in another one's place. Plain laws. Printed by wip/gen_frlaid.py. A raw text that may be no name, an expression that may be wrong in any way: counterprooflaw03.odd, (scope).wild: some text, some expression at most so deep. Printed by wip/gen_frwild.py. -/
import Derived.Test.YtmignlclfbaifaaGreatPtFrP
import Derived.Test.YtmignlclfbaifaaGreatPtTrCheck
import Derived.Test.YtmignlclfbaifaaGreatPtTrAw
import Derived.Test.YtmignlclfbaifaaGreatPtTrRow
namespace Go.Proofs.YtmignlclfbaifaaGreat
open Go.RowKit
def thinN:Nat→Nat
 |0=>0
 |d+1=>1+8*thinN d
theorem thin_len:∀(d D:Nat) (l:List LStmt) (loop:Bool),(∀s∈l,thinS d s)→(allL D l loop).length≤l.length*thinN d
 |_,0,_,_,_=>Nat.zero_le _
 |0,D+1,l,_,h=>by
  cases l with
  |nil=>exact Nat.zero_le _
  |cons s r=>exact (h s (by simp)).elim
 |d+1,D+1,l,loop,h=>by
  induction l with
  |nil=>exact Nat.zero_le _
  |cons s r ih=>
   obtain ⟨h1,h2,h3,h4⟩:=h s (by simp)
   have e1:=thin_len d D s.thn (loop || decide (s.kind=4)) h3
   have e2:=thin_len d D s.els loop h4
   have e3:=ih fun x hx=>h x (by simp [hx])
   have m1:s.thn.length*thinN d≤4*thinN d:=Nat.mul_le_mul_right _ h1
   have m2:s.els.length*thinN d≤4*thinN d:=Nat.mul_le_mul_right _ h2
   show ((s :: r).flatMap fun s=>(s,loop) :: (allL D s.thn (loop || decide (s.kind=4))++allL D s.els loop)).length≤_
   rw [List.flatMap_cons,List.length_append,List.length_cons,List.length_append,List.length_cons,Nat.succ_mul]
   have e4:(r.flatMap fun s=>(s,loop) :: (allL D s.thn (loop || decide (s.kind=4))++allL D s.els loop)).length≤r.length*thinN (d+1):=e3
   have e5:thinN (d+1)=1+8*thinN d:=rfl
   omega
theorem gbody_len (D:Nat) {l:List LStmt} (h:∀s∈l,thinS 4 s) (hl:l.length≤4):(allL D l false).length≤10000:=by
 have e:=thin_len 4 D l false h
 have m:l.length*thinN 4≤4*thinN 4:=Nat.mul_le_mul_right _ hl
 have v:thinN 4=585:=rfl
 omega
section
variable {p:LProg}
theorem few_of {D:Nat} (ha:p.arrays.length≤400) (hf:p.funcs.length≤400) (hp:∀f∈p.funcs,f.params.length≤400∧f.locals.length≤400∧(allL D f.body false).length≤20000):FewP D p:=
 ⟨ha,hf,fun f h=>(hp f h).1,fun f h=>(hp f h).2.1,fun f h=>Nat.le_trans (hp f h).2.2 (by decide)⟩
theorem GenP.func (h:GenP p) (D:Nat) {f:LFunc} (hf:f∈p.funcs):f.params.length≤6∧f.locals.length≤5∧f.body.length≤4∧(allL D f.body false).length≤10000:=by
 obtain ⟨h1,h2,h3,h4⟩:=h.each f hf
 exact ⟨h1,h2,h4,gbody_len D h3 h4⟩
theorem GenP.fewP (h:GenP p) (D:Nat):FewP D p:=
 few_of (by have:=h.fewA;omega) (by have:=h.few;omega) fun f hf=>by have:=h.func D hf;omega
end
theorem news_rows {α:Type} {w:World} {ok:Nat→Prop} {sz n c:Nat} {A:Option Addr} {R:List Value→α→Prop} {l:List α} (h:SlR w ok sz R (.slice A n c) l) (hn:n=l.length) (h1:∀cs x,R cs x→∀u∈cs,u.oneCell'=true) :
  ∃css:List (List Value),css.length=l.length∧(∀cs∈css,cs.length=sz)∧(∀(i:Nat) (h1:i<css.length) (h2:i<l.length),R css[i] l[i])∧css.flatten.length=n*sz∧(n=0∨∃ad,A=some ad∧∀j u,css.flatten[j]?=some u→w.cell? (ad.add j)=some u)∧∀u∈css.flatten,u.oneCell'=true:=by
 obtain ⟨css,q1,q2,q3,q4⟩:=h.rows_any
 refine ⟨css,q1,q2,q3,by rw [flatten_len q2,q1,hn],?_,flatten_ones fun cs hcs u hu=>?_⟩
 ·rcases q4 with q4|⟨b,o,hA,_,hc⟩
  ·exact .inl (by omega)
  ·exact .inr ⟨⟨b,o,none⟩,hA,hc.news⟩
 ·obtain ⟨i,hi,rfl⟩:=List.getElem_of_mem hcs
  exact h1 _ _ (q3 i hi (by omega)) u hu
theorem ones_func {d:Nat} {w:World} {ok:Nat→Prop} {cs:List Value} {x:LFunc} (h:RFunc d w ok cs x):∀u∈cs,u.oneCell'=true:=by
 obtain ⟨vp,vl,vb,rfl,h1,h2,h3⟩:=h
 obtain ⟨_,_,rfl,_⟩:=h1.val
 obtain ⟨_,_,rfl,_⟩:=h2.val
 obtain ⟨_,_,rfl,_⟩:=h3.val
 simp [Value.oneCell']
theorem ones_stmt {d:Nat} {w:World} {ok:Nat→Prop} {cs:List Value} {x:LStmt} (h:RStmt d w ok cs x):∀u∈cs,u.oneCell'=true:=by
 cases d with
 |zero=>exact h.elim
 |succ d=>
  obtain ⟨va,vt,ve,rfl,h1,h2,h3⟩:=h
  obtain ⟨_,_,rfl,_⟩:=h1.val
  obtain ⟨_,_,rfl,_⟩:=h2.val
  obtain ⟨_,_,rfl,_⟩:=h3.val
  simp [Value.oneCell',stmtCells]
theorem slr_joined {α:Type} {w w':World} {base sz n m:Nat} {T:TypeId} {R:World→(Nat→Prop)→List Value→α→Prop} {v:Value} {l r:List α} {css dss:List (List Value)} {ok ok':Nat→Prop} (hm:MonoR R)
  (hrow:w'.ownsRow base T sz v (n+m) (css.flatten++dss.flatten)) (hn:n=l.length) (hm2:m=r.length) (h1:css.length=l.length) (h2:dss.length=r.length) (e1:∀cs∈css,cs.length=sz) (e2:∀cs∈dss,cs.length=sz)
  (r1:∀(i:Nat) (a:i<css.length) (b:i<l.length),R w ok css[i] l[i]) (r2:∀(i:Nat) (a:i<dss.length) (b:i<r.length),R w ok dss[i] r[i]) (hok:∀b,ok b→ok' b) (hk:Keeps ok w w') (hown:∀g,v.ownBlock=some g→ok' g):SlR w' ok' sz (R w' ok') v (l++r):=by
 refine SlR.of_own (css:=css++dss) (n:=n+m) (by rw [List.flatten_append];exact hrow) (by rw [List.length_append];omega) (by simp [h1,h2]) (fun cs hcs=>?_) (fun i a b=>?_) hown
 ·rcases List.mem_append.1 hcs with h|h
  ·exact e1 cs h
  ·exact e2 cs h
 ·by_cases h:i<css.length
  ·rw [List.getElem_append_left h,List.getElem_append_left (by omega)]
   exact hm _ _ _ _ _ _ (r1 i h (by omega)) hok hk
  ·rw [List.getElem_append_right (by omega),List.getElem_append_right (by omega)]
   have hi:i-css.length<dss.length:=by simp at a;omega
   have h3:=r2 (i-css.length) hi (by omega)
   have e:i-l.length=i-css.length:=by omega
   simp only [e]
   exact hm _ _ _ _ _ _ h3 hok hk
theorem cell_keep {w w':World} {B:Nat} {a:Addr} {v:Value} (hb:Below B w w') (hB:B=w.heap.size) (h:w.cell? a=some v):w'.cell? a=some v:=by
 subst hB
 rw [hb.cell (World.block_lt_of_cell? w _ h)];exact h
theorem OwnX.put4 {α:Type} {w:World} {ok:Nat→Prop} {base:Nat} {T:TypeId} {R:World→(Nat→Prop)→List Value→α→Prop} {l:List α} {css:List (List Value)} {g n cap j:Nat} {c0 c1 c2 c3:Value} {x:α} (hm:MonoR R)
  (h:OwnX w ok base T 4 R (.slice (some ⟨g,0,none⟩) n cap) l css) (hn:n=l.length) (hj:j<css.length) (hx:R w ok [c0,c1,c2,c3] x) :
  OwnX ((((w.setCell ⟨g,j*4,none⟩ c0).setCell ⟨g,j*4+1,none⟩ c1).setCell ⟨g,j*4+2,none⟩ c2).setCell ⟨g,j*4+3,none⟩ c3) ok base T 4 R (.slice (some ⟨g,0,none⟩) n cap) (l.set j x) (css.set j [c0,c1,c2,c3]):=by
 subst hn
 have r0:=OwnL.put1 h.row h.each hj (show 0<4 by decide) c0 x
 have hl:css[j].length=4:=h.each _ (List.getElem_mem _)
 obtain ⟨a0,a1,a2,a3,he⟩:∃a0 a1 a2 a3,css[j]=[a0,a1,a2,a3]:=by
  match css[j],hl with
  |[a0,a1,a2,a3],_=>exact ⟨a0,a1,a2,a3,rfl⟩
 rw [he] at r0
 have e0:∀cs∈css.set j ([a0,a1,a2,a3].set 0 c0),cs.length=4:=fun cs hcs=>by
  rcases List.mem_or_eq_of_mem_set hcs with h1|h1
  ·exact h.each cs h1
  ·rw [h1];rfl
 have hj0:j<(css.set j ([a0,a1,a2,a3].set 0 c0)).length:=by simpa using hj
 have r1:=OwnL.put1 r0 e0 hj0 (show 1<4 by decide) c1 x
 rw [List.getElem_set_self,List.set_set] at r1
 have e1:∀cs∈css.set j (([a0,a1,a2,a3].set 0 c0).set 1 c1),cs.length=4:=fun cs hcs=>by
  rcases List.mem_or_eq_of_mem_set hcs with h1|h1
  ·exact h.each cs h1
  ·rw [h1];rfl
 have hj1:j<(css.set j (([a0,a1,a2,a3].set 0 c0).set 1 c1)).length:=by simpa using hj
 have r2:=OwnL.put1 r1 e1 hj1 (show 2<4 by decide) c2 x
 rw [List.getElem_set_self,List.set_set] at r2
 have e2:∀cs∈css.set j ((([a0,a1,a2,a3].set 0 c0).set 1 c1).set 2 c2),cs.length=4:=fun cs hcs=>by
  rcases List.mem_or_eq_of_mem_set hcs with h1|h1
  ·exact h.each cs h1
  ·rw [h1];rfl
 have hj2:j<(css.set j ((([a0,a1,a2,a3].set 0 c0).set 1 c1).set 2 c2)).length:=by simpa using hj
 have r3:=OwnL.put1 r2 e2 hj2 (show 3<4 by decide) c3 x
 rw [List.getElem_set_self,List.set_set] at r3
 have hrow:((((w.setCell ⟨g,j*4,none⟩ c0).setCell ⟨g,j*4+1,none⟩ c1).setCell ⟨g,j*4+2,none⟩ c2).setCell ⟨g,j*4+3,none⟩ c3).ownsRow base T 4 (.slice (some ⟨g,0,none⟩) l.length cap) l.length (css.set j [c0,c1,c2,c3]).flatten:=r3
 have hne:∀b,ok b→b≠g:=fun b hb e=>h.free g rfl (e▸hb)
 have hk:Keeps ok w ((((w.setCell ⟨g,j*4,none⟩ c0).setCell ⟨g,j*4+1,none⟩ c1).setCell ⟨g,j*4+2,none⟩ c2).setCell ⟨g,j*4+3,none⟩ c3):=fun b hb=>
  (bhs _ ⟨g,j*4+3,none⟩ c3 b (hne b hb)).trans ((bhs _ ⟨g,j*4+2,none⟩ c2 b (hne b hb)).trans ((bhs _ ⟨g,j*4+1,none⟩ c1 b (hne b hb)).trans (bhs _ ⟨g,j*4,none⟩ c0 b (hne b hb))))
 refine ⟨by simp [h.len],fun cs hcs=>?_,by rw [List.length_set];exact hrow,fun a h1 h2=>?_,h.free⟩
 ·rcases List.mem_or_eq_of_mem_set hcs with h1|h1
  ·exact h.each cs h1
  ·rw [h1];rfl
 ·by_cases e:j=a
  ·subst e
   rw [List.getElem_set_self,List.getElem_set_self]
   exact hm _ _ _ _ _ _ hx (fun _ h=>h) hk
  ·rw [List.getElem_set_ne e,List.getElem_set_ne e]
   exact hm _ _ _ _ _ _ (h.elems a (by simpa using h1) (by simpa using h2)) (fun _ h=>h) hk
theorem OwnL.slr_lo {w:World} {base lo:Nat} {T:TypeId} {v:Value} {l:List (ByteArray × Int)} {css:List (List Value)} (h:OwnL w base T 2 RArrM v l css) (hlt:∀k,v.ownBlock=some k→k<lo):SlR w (· < lo) 2 RArr v l:=
 SlR.of_own h.row rfl h.len h.each (fun i h1 h2=>h.elems i h1 h2) hlt
structure ProgIn (w:World) (p:LProg) (A1:Option Addr) (c1 g c2 B3 lo:Nat) (css:List (List Value)):Prop where
 gen:GenP p
 arrs:SlR w (· < lo) 2 RArr (.slice A1 p.arrays.length c1) p.arrays
 low:lo≤B3
 row:OwnX w (okX lo w (.slice (some ⟨g,0,none⟩) p.funcs.length c2)) B3 49 4 (RFuncM 8) (.slice (some ⟨g,0,none⟩) p.funcs.length c2) p.funcs css
theorem ProgPost.inn2 {w w':World} {e:Ending} (h:ProgPost w e w'):∃(p:LProg) (A1:Option Addr) (c1 g c2 B1 B3 lo:Nat) (css1 css:List (List Value)),e=.returned (.agg #[.slice A1 p.arrays.length c1,.slice (some ⟨g,0,none⟩) p.funcs.length c2])∧Below w.heap.size w w'∧B1≤lo∧w.heap.size≤B1∧ProgIn w' p A1 c1 g c2 B3 lo css∧
  OwnL w' B1 53 2 RArrM (.slice A1 p.arrays.length c1) p.arrays css1∧(∀k,(.slice A1 p.arrays.length c1:Value).ownBlock=some k→k<lo):=by
 obtain ⟨p,A1,A2,c1,c2,B1,lo,B3,css1,css2,he,hg,hb,h1,h2,h3,hA,hlt,hF⟩:=h
 obtain ⟨g,c',hv,_,_,_⟩:=own_some hF.row hg.pos
 injection hv with e1 _ e3
 subst e1 e3
 exact ⟨p,A1,c1,g,c2,B1,B3,lo,css1,css2,he,hb,h2,h1,⟨hg,hA.slr_lo hlt,h3,hF⟩,hA,hlt⟩
end Go.Proofs.YtmignlclfbaifaaGreat
namespace Go.Proofs.YtmignlclfbaifaaGreat
open Go.RowKit
section
set_option maxRecDepth 100000
set_option maxHeartbeats 4000000
theorem odd_any (w:World) (sb:Nat) (hs:SrcAt w sb) :
  Calls Tryz.prog 22 #[.pointer (some ⟨sb,0,none⟩)] w fun e w'=>(∃s,e=.returned (.string s))∧SrcAt w' sb∧w.grownBy w' (some sb):=by
 have HSRC:=Ω hs
 have HSB:=Ω hs.lt
 clear hs
 have BA:Hid (∀o,Below w.heap.size w (w.alloc o)):=Ω (fun o=>below1 w o)
 go_enter Tryz.func22,Tryz.ntmps22
 go_wp2_with (go_at_call 21;refine (next_any _ sb 10 (by omega) (HSRC.out.below (BA.out _))).mono ?_;rintro e w1 ⟨⟨k,hk,rfl⟩,hs1,hg1⟩;have hb1:=(Blk.new w 9 #[.string ⟨#[]⟩,.string ⟨#[120]⟩,.string ⟨#[109,97,105,110]⟩,.string ⟨#[102]⟩,.string ⟨#[97]⟩,.string ⟨#[105,102]⟩,.string ⟨#[49,97]⟩,.string ⟨#[112]⟩,.string ⟨#[121]⟩,.string ⟨#[103]⟩]).grown hg1 (fun e=>by have:=sj e;have:=HSB.out;omega);obtain ⟨s,hsz,hcl⟩:=str_cell (k:=k) hb1 (by show k<10;omega) (by intro u hu;simp at hu;rcases hu with rfl|rfl|rfl|rfl|rfl|rfl|rfl|rfl|rfl|rfl <;> exact ⟨_,by decide,rfl⟩);have hi1:(k:Int)<10:=(by omega);have hi2:¬(k:Int)<0:=(by omega);have HG1:Hid (w.grownBy w1 (some sb)):=Ω ((grown_below' (row:=some sb) (BA.out _)).trans hg1);have HS1:=Ω hs1;clear hs1 hg1 hb1 hsz)
 go_ret
 exact ⟨⟨s,rfl⟩,HS1.out,HG1.out⟩
theorem StE.own {fr:Bool} {w X:World} {sb nv na nf:Nat} {Av Aa Af:Option Addr} {cv ca cf:Nat} {loop:Bool} (h:StE fr w sb X nv na nf Av Aa Af cv ca cf loop) {b:Nat} (hb:w.heap.size+2≤b) (i:Nat) (u:Value):StE fr w sb (X.setCell ⟨b,i,none⟩ u) nv na nf Av Aa Af cv ca cf loop:=
 have hs:=h.sb
 ⟨grown_own h.g b (by omega) i u,h.src.keep (fun q hq=>bhs X ⟨b,i,none⟩ u q (by show q≠b;omega)),h.box.far (p:=⟨b,i,none⟩) (by show w.heap.size≠b;omega) u,h.res.far (p:=⟨b,i,none⟩) (by show w.heap.size+1≠b;omega) u,by have:=h.lt;simpa [World.setCell] using this,hs⟩
def okE (w:World) (ge:Nat) (X:World) (b:Nat):Prop:=w.heap.size+2≤b∧b<X.heap.size∧b≠ge
def RowB (w:World) (ge:Nat) (X:World) (v:Value) (l:List LExpr):Prop:=SlR X (okE w ge X) 5 (RExpr 3 X (okE w ge X)) v l
theorem RowB.keep {w X Y:World} {ge:Nat} {v:Value} {l:List LExpr} (h:RowB w ge X v l) (hk:Keeps (okE w ge X) X Y) (hs:X.heap.size≤Y.heap.size):RowB w ge Y v l:=
 SlR.imp h (fun _ hb=>⟨hb.1,ltle hb.2.1 hs,hb.2.2⟩) hk fun _ _ _ q=>q.imp (fun _ hb=>⟨hb.1,ltle hb.2.1 hs,hb.2.2⟩) hk
theorem RowB.grown {w X Y:World} {ge sb:Nat} {v:Value} {l:List LExpr} (h:RowB w ge X v l) (hg:X.grownBy Y (some sb)) (hb:sb<w.heap.size):RowB w ge Y v l:=
 h.keep (fun b hb2=>hg.block b hb2.2.1 (fun e=>by have h1:=sj e;have h2:=hb2.1;omega)) hg.size
theorem RowB.own {w X:World} {ge:Nat} {v:Value} {l:List LExpr} (h:RowB w ge X v l) (i:Nat) (u:Value):RowB w ge (X.setCell ⟨ge,i,none⟩ u) v l:=
 h.keep (fun b hb2=>bhs X ⟨ge,i,none⟩ u b hb2.2.2) (by simp [World.setCell])
theorem ones_expr {d:Nat} {w:World} {ok:Nat→Prop} {cs:List Value} {x:LExpr} (h:RExpr d w ok cs x):∀u∈cs,u.oneCell'=true:=by
 cases d with
 |zero=>exact h.elim
 |succ d=>
  obtain ⟨va,rfl,h1⟩:=h
  obtain ⟨_,_,rfl,_⟩:=h1.val
  simp [Value.oneCell',exprCells]
theorem rows_cons {α:Type} {R:List Value→α→Prop} {css:List (List Value)} {l:List α} {cs:List Value} {x:α} (r:∀(i:Nat) (a:i<css.length) (b:i<l.length),R css[i] l[i]) (hx:R cs x):∀(i:Nat) (a:i<(cs :: css).length) (b:i<(x :: l).length),R (cs :: css)[i] (x :: l)[i]
 |0,_,_=>hx
 |i+1,a,b=>r i (by simpa using a) (by simpa using b)
theorem wild_app {fr:Bool} {w X0 X1 X2 X3:World} {sb ge nv na nf n3 c3 m cy:Nat} {Av Aa Af A3 Ay:Option Addr} {cv ca cf:Nat} {loop:Bool} {y:LExpr} {l:List LExpr} {ess:List (List Value)} {T:TypeId} {cs:Array Value}
  (hs:StE fr w sb X2 nv na nf Av Aa Af cv ca cf loop) (hb:Blk X2 ge T cs) (hg:X0.grownBy X1 (some sb)) (h12:Below X1.heap.size X1 X2) (hx0:ge<X0.heap.size) (hge:w.heap.size+2≤ge) (hy:RExpr 3 X1 (fresh X0 X1) (exprCells y (.slice Ay m cy)) y)
  (q1:ess.length=l.length) (q2:∀cs∈ess,cs.length=5) (q3:∀(i:Nat) (h1:i<ess.length) (h2:i<l.length),RExpr 3 X2 (okE w ge X1) ess[i] l[i])
  (hown:X3.ownsRow X1.heap.size 42 5 (.slice A3 n3 c3) n3 (exprCells y (.slice Ay m cy)++ess.flatten)) (hgr:X2.grownBy X3 (.slice (some ⟨X1.heap.size,0,none⟩) 1 1:Value).ownBlock) (hn:n3=1+l.length) :
  Blk X3 ge T cs∧StE fr w sb X3 nv na nf Av Aa Af cv ca cf loop∧RowB w ge X3 (.slice A3 n3 c3) (y :: l):=by
 have hsb:=hs.sb
 have h1:=hg.size
 have h2:=h12.size
 have h3:=hgr.size
 have hk:∀b,b<X2.heap.size→b≠X1.heap.size→X3.heap[b]?=X2.heap[b]?:=fun b hb hne=>hgr.block b hb (fun e=>hne (by have e':b=X1.heap.size:=(by simpa [Value.ownBlock] using e);exact e'))
 have hlt:=hs.lt
 have hg0:=hs.g
 have hgz:=hg0.size
 have h3g:w.grownBy X3 (some sb):=⟨hgr.os.trans hg0.os,hgr.tape.trans hg0.tape,hgr.output.trans hg0.output,Nat.le_trans hg0.size h3,fun k hk2 hne=>(hk k (by omega) (by omega)).trans (hg0.block k hk2 hne)⟩
 refine ⟨hb.keep (hk ge (by omega) (by omega)),⟨h3g,hs.src.keep (fun b hb=>hk b (by omega) (by omega)),hs.box.keep (hk _ (by omega) (by omega)),hs.res.keep (hk _ (by omega) (by omega)),by omega,hsb⟩,?_⟩
 have up2:∀b,okE w ge X1 b→okE w ge X3 b:=fun b hb=>⟨hb.1,by have:=hb.2.1;omega,hb.2.2⟩
 have kp2:Keeps (okE w ge X1) X2 X3:=fun b hb=>hk b (by have:=hb.2.1;omega) (by have:=hb.2.1;omega)
 have up1:∀b,fresh X0 X1 b→okE w ge X3 b:=fun b hb=>⟨by have:=hb.1;omega,by have:=hb.2;omega,by have:=hb.1;omega⟩
 have kp1:Keeps (fresh X0 X1) X1 X3:=fun b hb=>(hk b (by have:=hb.2;omega) (by have:=hb.2;omega)).trans (h12.block b hb.2)
 exact SlR.of_own (css:=exprCells y (.slice Ay m cy) :: ess) (by rw [List.flatten_cons];exact hown) (by rw [hn,List.length_cons];omega) (by simp [q1]) (fun cs hcs=>by rcases List.mem_cons.1 hcs with rfl|h;rfl;exact q2 cs h)
  (rows_cons (R:=RExpr 3 X3 (okE w ge X3)) (fun i a b=>(q3 i a b).imp up2 kp2 3) (hy.imp up1 kp1 3)) (fun q e=>by have h5:=hown.lt q e;exact ⟨by omega,h5.2,by omega⟩)
theorem wild_any (fr:Bool) (w:World) (sb:Nat) (c:Scp) (Av Aa Af:Option Addr) (cv ca cf:Nat) (loop:Bool) (hs:SrcAt w sb) (hc:ScAt w sb c Av Aa Af cv ca cf) (hk:ScOk c) :
  Calls Tryz.prog 23 #[.agg #[.slice Av c.vars.length cv,.slice Aa c.arrs.length ca,.slice Af c.funs.length cf,.bool fr,.bool loop],.pointer (some ⟨sb,0,none⟩)] w (ExprPost w sb c 4):=by
 have HSB:=Ω hs.lt
 obtain ⟨zi,hj0,hj1,hj2,hj3⟩:=info_parts info_expr
 obtain ⟨nv,hnv⟩:∃n,n=c.vars.length:=⟨_,rfl⟩
 obtain ⟨na,hna⟩:∃n,n=c.arrs.length:=⟨_,rfl⟩
 obtain ⟨nf,hnf⟩:∃n,n=c.funs.length:=⟨_,rfl⟩
 have HSS:=Ω hs
 have HX3:Hid (∀X,w.grownBy X (some sb)→SrcAt X sb→Calls Tryz.prog 24 #[.agg #[.slice Av nv cv,.slice Aa na ca,.slice Af nf cf,.bool fr,.bool loop],.pointer (some ⟨sb,0,none⟩),.int .i64 3] X (ExprPost X sb c 3)):=Ω (fun X hg hsx=>by
  have h:=(gen_all fr 3 (by decide) (by decide)).1 X sb c Av Aa Af cv ca cf loop hsx (hc.grown hg) hk
  rw [←hnv,←hna,←hnf] at h
  exact h)
 have HX2:Hid (∀X,w.grownBy X (some sb)→SrcAt X sb→Calls Tryz.prog 24 #[.agg #[.slice Av nv cv,.slice Aa na ca,.slice Af nf cf,.bool fr,.bool loop],.pointer (some ⟨sb,0,none⟩),.int .i64 2] X (ExprPost X sb c 2)):=Ω (fun X hg hsx=>by
  have h:=(gen_all fr 2 (by decide) (by decide)).1 X sb c Av Aa Af cv ca cf loop hsx (hc.grown hg) hk
  rw [←hnv,←hna,←hnf] at h
  exact h)
 rw [←hnv,←hna,←hnf]
 clear hs hc hk hnv hna hnf
 go_enter Tryz.func23,Tryz.ntmps23
 go_upto_region 1 with fail
 refine wp_world ?_
 intro W hW
 have hst:StE fr w sb W nv na nf Av Aa Af cv ca cf loop:=by
  rw [←hW]
  exact ⟨grown_below' (below2 _ _ _),HSS.out.below (below2 _ _ _),(Blk.new _ _ _).alloc _,Blk.new_at _ _ _ (by simp),by simp,HSB.out⟩
 have HST:=Ω hst
 have hwl:=hst.lt
 obtain ⟨b0,b1,b2,b3,b4⟩:=hst.box.c5
 clear hW hst
 go_upto_region 2 with (go_at_call 24;refine (HX3.out _ HST.out.g HST.out.src).mono ?_;intro e w1 hp;obtain ⟨x,Ax,cx,rfl,hmx,hrx,hsx,hgx⟩:=hp.open HST.out;have HMX:Hid (x.args.length≤6+3):=Ω hmx;have HR1:=Ω hrx;have HS1:=Ω hsx;clear hp hmx hrx hsx hgx)
 refine wp_world ?_
 intro W1 hW1
 obtain ⟨n,hn⟩:∃n,n=x.args.length:=⟨_,rfl⟩
 have HN:=Ω hn
 have h1:StE fr w sb W1 nv na nf Av Aa Af cv ca cf loop:=by rw [←hW1];exact HS1.out.below (below1 _ _)
 obtain ⟨ge,hge⟩:∃g,w1.heap.size=g:=⟨_,rfl⟩
 have h1b:Blk W1 ge 42 #[.int .i64 x.kind,.int .i64 x.op,.int .i64 x.n,.string x.name,.slice Ax n cx]:=by rw [←hW1,←hge,hn];exact Blk.new _ _ _
 have h1r:RowB w ge W1 (.slice Ax n cx) x.args:=by
  rw [←hW1,hn]
  refine SlR.imp HR1.out (fun b hb=>⟨hb.1,by have:=hb.2;simp;omega,by have:=hb.2;omega⟩) (fun b hb=>Below.heap_alloc w1 _ b hb.2) fun _ _ _ q=>q.imp (fun b hb=>⟨hb.1,by have:=hb.2;simp;omega,by have:=hb.2;omega⟩) (fun b hb=>Below.heap_alloc w1 _ b hb.2)
 have HGE:Hid (w.heap.size+2≤ge):=Ω (by rw [←hge];exact HS1.out.lt)
 rw [hge]
 have hn9:n≤9:=by rw [hn];exact HMX.out
 have HS:=Ω h1;have HBX:=Ω h1b;have HRB:=Ω h1r
 clear hW1 hge h1 h1b h1r hn HS1 HR1 b0 b1 b2 b3 b4
 go_upto_block 0 with (go_at_call 21;refine (next_any _ sb 6 (by omega) HS.out.src).mono ?_;rintro e W2 ⟨⟨q,hq,rfl⟩,hs2,hg2⟩;have hb2:=HBX.out.grown hg2 (fun e=>by have:=sj e;have:=HSB.out;have:=HGE.out;omega);have HS2:=Ω (HS.out.step hg2 hs2);have HB2:=Ω hb2;have HR2:=Ω (HRB.out.grown hg2 HSB.out);clear hs2 hg2 hb2)
 go_cut [] (fun wx=>∃(y:LExpr) (Ay:Option Addr) (cy m:Nat),m=y.args.length∧m≤10∧Blk wx ge 42 #[.int .i64 y.kind,.int .i64 y.op,.int .i64 y.n,.string y.name,.slice Ay m cy]∧RowB w ge wx (.slice Ay m cy) y.args∧StE fr w sb wx nv na nf Av Aa Af cv ca cf loop)
 case first=>
  rcases (by omega:q=0∨q=1∨q=2∨q=3∨q=4∨q=5) with rfl|rfl|rfl|rfl|rfl|rfl
  case inl=>
   go_wp2_with (go_at_call 21;refine (next_any _ sb 10 (by omega) HS2.out.src).mono ?_;rintro e W3 ⟨⟨k,hk,rfl⟩,hs3,hg3⟩;have hb3:=HB2.out.grown hg3 (fun e=>by have:=sj e;have:=HSB.out;have:=HGE.out;omega);have HS3:=Ω (HS2.out.step hg3 hs3);have HB3:=Ω hb3;have HR3:=Ω (HR2.out.grown hg3 HSB.out);have kc:=hb3.cell 0;have kz:=hb3.frozen 0;clear hs3 hg3 hb3)
   go_meet
   case rel=>exact ⟨⟨(k:Int)-1,x.op,x.n,x.name,x.args⟩,Ax,cx,n,HN.out,by omega,HB3.out.set_ 0 _,HR3.out.own 0 _,HS3.out.own HGE.out 0 _⟩
  case inr.inl=>
   go_wp2_with (go_at_call 21;refine (next_any _ sb 22 (by omega) HS2.out.src).mono ?_;rintro e W3 ⟨⟨k,hk,rfl⟩,hs3,hg3⟩;have hb3:=HB2.out.grown hg3 (fun e=>by have:=sj e;have:=HSB.out;have:=HGE.out;omega);have HS3:=Ω (HS2.out.step hg3 hs3);have HB3:=Ω hb3;have HR3:=Ω (HR2.out.grown hg3 HSB.out);have kc:=hb3.cell 1;have kz:=hb3.frozen 1;clear hs3 hg3 hb3)
   go_meet
   case rel=>exact ⟨⟨x.kind,(k:Int)-1,x.n,x.name,x.args⟩,Ax,cx,n,HN.out,by omega,HB3.out.set_ 1 _,HR3.out.own 1 _,HS3.out.own HGE.out 1 _⟩
  case inr.inr.inl=>
   go_wp2_with (go_at_call 21;refine (next_any _ sb 9 (by omega) HS2.out.src).mono ?_;rintro e W3 ⟨⟨k,hk,rfl⟩,hs3,hg3⟩;have hb3:=HB2.out.grown hg3 (fun e=>by have:=sj e;have:=HSB.out;have:=HGE.out;omega);have HS3:=Ω (HS2.out.step hg3 hs3);have HB3:=Ω hb3;have HR3:=Ω (HR2.out.grown hg3 HSB.out);have kc:=hb3.cell 2;have kz:=hb3.frozen 2;clear hs3 hg3 hb3)
   go_meet
   case rel=>exact ⟨⟨x.kind,x.op,(k:Int)-4,x.name,x.args⟩,Ax,cx,n,HN.out,by omega,HB3.out.set_ 2 _,HR3.out.own 2 _,HS3.out.own HGE.out 2 _⟩
  case inr.inr.inr.inl=>
   go_wp2_with (go_at_call 22;refine (odd_any _ sb HS2.out.src).mono ?_;rintro e W3 ⟨⟨s,rfl⟩,hs3,hg3⟩;have hb3:=HB2.out.grown hg3 (fun e=>by have:=sj e;have:=HSB.out;have:=HGE.out;omega);have HS3:=Ω (HS2.out.step hg3 hs3);have HB3:=Ω hb3;have HR3:=Ω (HR2.out.grown hg3 HSB.out);have kc:=hb3.cell 3;have kz:=hb3.frozen 3;clear hs3 hg3 hb3)
   go_meet
   case rel=>exact ⟨⟨x.kind,x.op,x.n,s,x.args⟩,Ax,cx,n,HN.out,by omega,HB3.out.set_ 3 _,HR3.out.own 3 _,HS3.out.own HGE.out 3 _⟩
  case inr.inr.inr.inr.inl=>
   go_upto_region 12 with fail
   have SO:Hid (∀X,(Blk X ge 42 #[.int .i64 x.kind,.int .i64 x.op,.int .i64 x.n,.string x.name,.slice Ax n cx]∧StE fr w sb X nv na nf Av Aa Af cv ca cf loop)→(fun X=>X.cell? ⟨ge,4,none⟩=some (.slice Ax n cx)∧X.cell? ⟨w.heap.size,0,none⟩=some (.slice Av nv cv)∧X.cell? ⟨w.heap.size,1,none⟩=some (.slice Aa na ca)∧X.cell? ⟨w.heap.size,2,none⟩=some (.slice Af nf cf)∧X.cell? ⟨w.heap.size,3,none⟩=some (.bool fr)∧X.cell? ⟨w.heap.size,4,none⟩=some (.bool loop)) X):=Ω (fun X h=>⟨h.1.cell 4,h.2.box.cell 0,h.2.box.cell 1,h.2.box.cell 2,h.2.box.cell 3,h.2.box.cell 4⟩)
   have HB0:Hid (Blk W2.drew ge 42 #[.int .i64 x.kind,.int .i64 x.op,.int .i64 x.n,.string x.name,.slice Ax n cx]):=Ω HB2.out.drew;have HS0_:=Ω (HS2.out.below (Below.refl _ _).drew);have HR0:Hid (RowB w ge W2.drew (.slice Ax n cx) x.args):=Ω (HR2.out.keep (fun _ _=>rfl) (Nat.le_refl _))
   refine wp_region_L (by kernel_rfl) 8 (fun X=>X.cell? ⟨ge,4,none⟩=some (.slice Ax n cx)∧X.cell? ⟨w.heap.size,0,none⟩=some (.slice Av nv cv)∧X.cell? ⟨w.heap.size,1,none⟩=some (.slice Aa na ca)∧X.cell? ⟨w.heap.size,2,none⟩=some (.slice Af nf cf)∧X.cell? ⟨w.heap.size,3,none⟩=some (.bool fr)∧X.cell? ⟨w.heap.size,4,none⟩=some (.bool loop)) (SO.out _ ⟨HB0.out,HS0_.out⟩) (fun hHeld=>?_)
   have HS0:=Ω hHeld
   clear hHeld
   change wpAnyL _ _ _ _ _ 8 9 (Array.replicate 9 false) _ _
   obtain ⟨X0,hX0⟩:∃X0,W2.drew=X0:=⟨_,rfl⟩
   rw [hX0] at HS0 HB0 HS0_ HR0 ⊢
   clear hX0
   refine tS 0 36 (.agg #[.slice Av nv cv,.slice Aa na ca,.slice Af nf cf,.bool fr,.bool loop]) [8] HS0.out rfl rfl ?_ ?_
   ·intro w2 hSw;obtain ⟨g0,g1,g2,g3,g4,g5⟩:=hSw;go_simp
   try simp only [sA,sB,sC]
   refine tj 1 37 (.pointer (some ⟨sb,0,none⟩)) HS0.out rfl rfl ?_
   try simp only [sA,sB,sC]
   refine tj 4 40 (.pointer (some ⟨ge,4,none⟩)) HS0.out rfl rfl ?_
   try simp only [sA,sB,sC]
   refine tS 5 41 (.slice Ax n cx) [8] HS0.out rfl rfl ?_ ?_
   ·intro w2 hSw;obtain ⟨g0,g1,g2,g3,g4,g5⟩:=hSw;go_simp
   try simp only [sA,sB,sC]
   refine wpAnyL_ready (rs:=[2]) (by kernel_rfl) (by simp) ?_
   refine AllReadyL.cons rfl (fun K hK=>?_) AllReadyL.nil
   go_simp
   refine (HX2.out X0 HS0_.out.g HS0_.out.src).mono ?_
   intro e X1 hp
   obtain ⟨y,Ay,cy,rfl,-,hy1,hs1,hg1⟩:=hp.new
   obtain ⟨m,hm⟩:∃m,m=y.args.length:=⟨_,rfl⟩
   rw [←hm] at hy1 ⊢
   have HS1_:=Ω (HS0_.out.step hg1 hs1)
   have HB1:=Ω (HB0.out.grown hg1 (fun e=>by have:=sj e;have:=HSB.out;have:=HGE.out;omega))
   have HR1:=Ω (HR0.out.grown hg1 HSB.out)
   have HY1:=Ω hy1
   have HG1:=Ω hg1
   clear hp hy1 hs1 hg1 hm
   refine hK.out _ _ (SO.out _ ⟨HB1.out,HS1_.out⟩) (fun hHeld=>?_)
   have HS1:=Ω hHeld
   clear hK K hHeld
   try simp only [sA,sB,sC]
   refine wpAnyL_ready (rs:=[3]) (by kernel_rfl) (by simp) ?_
   refine AllReadyL.cons rfl (fun K hK=>?_) AllReadyL.nil
   go_simp
   obtain ⟨X2,hXX⟩:∃Z,X1.alloc (.cells #[.int .i64 y.kind,.int .i64 y.op,.int .i64 y.n,.string y.name,.slice Ay m cy] 42)=Z:=⟨_,rfl⟩
   rw [hXX]
   have hbl:Below X1.heap.size X1 X2:=by rw [←hXX];exact below1 _ _
   have hq:Blk X2 X1.heap.size 42 #[.int .i64 y.kind,.int .i64 y.op,.int .i64 y.n,.string y.name,.slice Ay m cy]:=by rw [←hXX];exact Blk.new _ _ _
   have HB2_:=Ω (HB1.out.below hbl HB1.out.lt)
   have HS2_:=Ω (HS1_.out.below hbl)
   have HR2_:Hid (SlR X2 (okE w ge X1) 5 (RExpr 3 X2 (okE w ge X1)) (.slice Ax n cx) x.args):=Ω (SlR.imp HR1.out (fun _ h=>h) (fun b hb=>hbl.block b hb.2.1) fun _ _ _ q=>q.imp (fun _ h=>h) (fun b hb=>hbl.block b hb.2.1) 3)
   have HN2:=Ω hq
   have HL2:=Ω hbl
   clear hXX hbl hq
   refine hK.out _ _ (SO.out _ ⟨HB2_.out,HS2_.out⟩) (fun hHeld=>?_)
   have HS2:=Ω hHeld
   clear hK K hHeld
   try simp only [sA,sB,sC]
   have hnw:=news_rows HR2_.out HN.out (fun _ _=>ones_expr)
   obtain ⟨ess,q1,q2,q3,q4,q5,q6⟩:=hnw
   have HQ:=Ω (And.intro q1 (And.intro q2 (And.intro q3 (And.intro q4 (And.intro q5 q6)))))
   clear q1 q2 q3 q4 q5 q6
   refine wpAnyL_ready (rs:=[6]) (by kernel_rfl) (by simp) ?_
   refine AllReadyL.cons rfl (fun K hK=>?_) AllReadyL.nil
   refine step_append_any _ (by rfl) _ _ _ (by rfl) X1.heap.size 42 zi _ 5 64 Tryz.underlying40 hj0 hj1 hj2 hj3 rfl (by omega) (.slice (some ⟨X1.heap.size,0,none⟩) 1 1) 1 [.int .i64 y.kind,.int .i64 y.op,.int .i64 y.n,.string y.name,.slice Ay m cy] (by rfl) (own_made HN2.out (Nat.le_refl _) (by decide) rfl) Ax n cx ess.flatten (by rfl) HQ.out.2.2.2.1 HQ.out.2.2.2.2.1 HQ.out.2.2.2.2.2 (by unfold maxLen;omega) (by omega) HL2.out.size X2.heap.size rfl ?_
   intro v3 X3 hown3 hgrow3 hat3
   obtain ⟨A3,c3,hv3⟩:=own_form hown3
   subst hv3
   obtain ⟨n3,hn3⟩:∃k,k=1+n:=⟨_,rfl⟩
   rw [←hn3] at hown3 ⊢
   have hap:=wild_app (ess:=ess) HS2_.out HB2_.out HG1.out HL2.out HB0.out.lt HGE.out HY1.out HQ.out.1 HQ.out.2.1 HQ.out.2.2.1 hown3 hgrow3 (by rw [hn3,HN.out])
   have HAP:=Ω hap
   have HN3:=Ω hn3
   clear hown3 hgrow3 hat3 hap hn3
   refine hK.out _ _ (SO.out _ ⟨HAP.out.1,HAP.out.2.1⟩) (fun hHeld=>?_)
   have HS3:=Ω hHeld
   clear hK K hHeld
   try simp only [sA,sB,sC]
   refine tj 7 43 (.pointer (some ⟨ge,4,none⟩)) HS3.out rfl rfl ?_
   try simp only [sA,sB,sC]
   have kc:=HAP.out.1.cell 4;have kz:=HAP.out.1.frozen 4
   refine wpAnyL_ready (rs:=[8]) (by kernel_rfl) (by simp) ?_
   refine AllReadyL.last rfl (by kernel_rfl) (fun K hK=>?_)
   go_simp
   refine hK.out _ _ ?_
   clear hK K
   try simp only [sA,sB,sC]
   refine wpAnyL_done (by kernel_rfl) ?_ _
   go_wp2
   go_meet
   case rel=>exact ⟨⟨x.kind,x.op,x.n,x.name,y :: x.args⟩,A3,c3,n3,by rw [HN3.out,HN.out];show 1+x.args.length=(y :: x.args).length;rw [List.length_cons];omega,by have:=HN3.out;omega,HAP.out.1.set_ 4 _,HAP.out.2.2.own 4 _,HAP.out.2.1.own HGE.out 4 _⟩
  case inr.inr.inr.inr.inr=>
   go_wp2
   go_meet
   case rel=>exact ⟨x,Ax,cx,n,HN.out,by omega,HB2.out,HR2.out,HS2.out⟩
 case rest=>
 obtain ⟨y,Ay,cy,m,hm,hm10,hb,hr,hs⟩:=hcut
 obtain ⟨q0,q1,q2,q3,q4⟩:=hb.c5
 obtain ⟨r0,r1,r2,r3,r4⟩:=hs.res.c5
 obtain ⟨t0,t1,t2,t3,t4⟩:=hs.res.z5
 have HS9:=Ω hs;have HR9:=Ω hr;have HM:=Ω hm
 clear hb hr hs hm
 go_wp2
 have hrow:RowE w wc 4 (.slice Ay m cy) y.args:=SlR.imp HR9.out (fun b hb=>⟨hb.1,hb.2.1⟩) (fun _ _=>rfl) fun _ _ _ q=>(q.imp (fun b hb=>⟨hb.1,hb.2.1⟩) (fun _ _=>rfl) 3).up 3 (by decide)
 have hend:=expr_end (c:=c) HS9.out y (.slice Ay m cy) (show y.args.length≤6+4 by rw [←HM.out];exact hm10) hrow
 refine bodyPost_ret (v:=.agg #[.int .i64 y.kind,.int .i64 y.op,.int .i64 y.n,.string y.name,.slice Ay m cy]) (results_cell_row (p:=4) (ty:=42) (by kernel_rfl) _ _ (w.heap.size+1) 42 _ (0,0) _ rfl hend.1 Tryz.underlying42 rfl (by kernel_rfl)) rfl hend.2
end
end Go.Proofs.YtmignlclfbaifaaGreat
