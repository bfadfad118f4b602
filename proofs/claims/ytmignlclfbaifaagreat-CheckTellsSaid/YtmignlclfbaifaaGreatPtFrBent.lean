/- A program in which one name is another one: counterprooflaw05.Bent: some program, in rows of its own. Printed by wip/gen_frbent.py. -/
import Derived.Test.YtmignlclfbaifaaGreatPtFrW
namespace Go.Proofs.YtmignlclfbaifaaGreat
open Go.RowKit
def BentPost (d:Nat) (p:LProg) (w:World):Ending→World→Prop:=fun e w'=>
 ∃(q:LProg) (A1 A2:Option Addr) (c1 c2:Nat),e=.returned (.agg #[.slice A1 q.arrays.length c1,.slice A2 q.funcs.length c2])∧Below w.heap.size w w'∧
  SlR w' (· < w'.heap.size) 2 RArr (.slice A1 q.arrays.length c1) q.arrays∧SlR w' (· < w'.heap.size) 4 (RFunc d w' (· < w'.heap.size)) (.slice A2 q.funcs.length c2) q.funcs∧
  q.arrays.length=p.arrays.length∧q.funcs.length=p.funcs.length∧∀f∈q.funcs,∃f0∈p.funcs,f.params.length≤f0.params.length+1∧f.locals.length≤f0.locals.length+1∧f.body=f0.body
theorem wrap_inF (a:Int):I64 (wrap64 a):=by unfold I64 wrap64;omega
theorem ones_arr {cs:List Value} {x:ByteArray × Int} (h:RArr cs x):∀u∈cs,u.oneCell'=true:=by
 obtain rfl:cs=[.string x.1,.int .i64 x.2]:=h
 simp [Value.oneCell']
theorem own_kept_any {base:Nat} {T:TypeId} {sz:Nat} {X Y:World} {v:Value} {n:Nat} {xs:List Value} (h:X.ownsRow base T sz v n xs) (hb:Below X.heap.size X Y):Y.ownsRow base T sz v n xs:=
 h.kept (grown_below' (row:=none) hb) (by
  cases e:v.ownBlock with
  |none=>exact .inl rfl
  |some q=>exact .inr (fun e2=>by cases e2))
structure Cloned (d:Nat) (p:LProg) (w W:World) (ass fss:List (List Value)) (X:World) (tb:Nat) (B1 B2:Option Addr) (n1 n2 e1 e2:Nat):Prop where
 below:Below W.heap.size W X
 blk:Blk X tb 27 #[.slice B1 n1 e1,.slice B2 n2 e2]
 arrs:OwnX X (· < w.heap.size) W.heap.size 53 2 RArrM (.slice B1 n1 e1) p.arrays ass
 funs:OwnX X (· < w.heap.size) W.heap.size 49 4 (RFuncM d) (.slice B2 n2 e2) p.funcs fss
 tbl:W.heap.size≤tb
 na:∀g,(.slice B1 n1 e1:Value).ownBlock=some g→g≠tb
 nf:∀g,(.slice B2 n2 e2:Value).ownBlock=some g→g≠tb
 naf:∀g g',(.slice B1 n1 e1:Value).ownBlock=some g→(.slice B2 n2 e2:Value).ownBlock=some g'→g≠g'
theorem cloned_of {d:Nat} {p:LProg} {w W X:World} {ass fss:List (List Value)} {tb n1 n2 e1 e2:Nat} {B1 B2 A1 A2:Option Addr} (hw:Below w.heap.size w W) (hX:Below W.heap.size W X)
  (q1:ass.length=p.arrays.length∧(∀cs∈ass,cs.length=2)∧(∀(i:Nat) (h1:i<ass.length) (h2:i<p.arrays.length),RArr ass[i] p.arrays[i])∧ass.flatten.length=n1*2∧(n1=0∨∃ad,A1=some ad∧∀j u,ass.flatten[j]?=some u→W.cell? (ad.add j)=some u)∧∀u∈ass.flatten,u.oneCell'=true)
  (q2:fss.length=p.funcs.length∧(∀cs∈fss,cs.length=4)∧(∀(i:Nat) (h1:i<fss.length) (h2:i<p.funcs.length),RFunc d W (· < w.heap.size) fss[i] p.funcs[i])∧fss.flatten.length=n2*4∧(n2=0∨∃ad,A2=some ad∧∀j u,fss.flatten[j]?=some u→W.cell? (ad.add j)=some u)∧∀u∈fss.flatten,u.oneCell'=true)
  (oa:X.ownsRow W.heap.size 53 2 (.slice B1 n1 e1) n1 ass.flatten) (of_:X.ownsRow W.heap.size 49 4 (.slice B2 n2 e2) n2 fss.flatten) {u0 u1:Value} (hb:Blk X tb 27 #[u0,u1])
  (na:∀g,(.slice B1 n1 e1:Value).ownBlock=some g→g≠tb) (nf:∀g,(.slice B2 n2 e2:Value).ownBlock=some g→g≠tb) (naf:∀g g',(.slice B1 n1 e1:Value).ownBlock=some g→(.slice B2 n2 e2:Value).ownBlock=some g'→g≠g') (htb:W.heap.size≤tb) :
  Cloned d p w W ass fss ((X.setCell ⟨tb,0,none⟩ (.slice B1 n1 e1)).setCell ⟨tb,1,none⟩ (.slice B2 n2 e2)) tb B1 B2 n1 n2 e1 e2:=by
 have l1:n1=p.arrays.length:=by have h1:=q1.2.2.2.1;have h2:=flatten_len q1.2.1;have h3:=q1.1;omega
 have l2:n2=p.funcs.length:=by have h1:=q2.2.2.2.1;have h2:=flatten_len q2.2.1;have h3:=q2.1;omega
 have hs:=hw.size
 have up:∀b,b<w.heap.size→b≠tb:=fun b hb=>by omega
 have kp:Keeps (· < w.heap.size) W ((X.setCell ⟨tb,0,none⟩ (.slice B1 n1 e1)).setCell ⟨tb,1,none⟩ (.slice B2 n2 e2)):=fun b hb3=>by
  have hb4:b<w.heap.size:=hb3
  exact (bhs _ ⟨tb,1,none⟩ _ b (up b hb4)).trans ((bhs X ⟨tb,0,none⟩ _ b (up b hb4)).trans (hX.block b (by omega)))
 have hg:X.grownBy ((X.setCell ⟨tb,0,none⟩ (.slice B1 n1 e1)).setCell ⟨tb,1,none⟩ (.slice B2 n2 e2)) (some tb):=⟨rfl,rfl,rfl,by simp [World.setCell],fun k _ hne=>(bhs _ ⟨tb,1,none⟩ _ k (fun e=>hne (by rw [show k=tb from e]))).trans (bhs X ⟨tb,0,none⟩ _ k (fun e=>hne (by rw [show k=tb from e])))⟩
 refine ⟨(hX.setCell (p:=⟨tb,0,none⟩) htb _).setCell (p:=⟨tb,1,none⟩) htb _,(hb.set_ 0 _).set_ 1 _,?_,?_,htb,na,nf,naf⟩
 ·subst l1
  refine OwnX.cloned mono_arr (oa.kept hg ?_) q1.1 q1.2.1 q1.2.2.1 kp (fun _ h=>h) (fun g hg2 hg3=>by have h4:=(oa.lt g hg2).1;have h5:g<w.heap.size:=hg3;omega)
  cases e:(.slice B1 p.arrays.length e1:Value).ownBlock with
  |none=>exact .inl rfl
  |some q=>exact .inr (fun e2=>na q e (sj e2))
 ·subst l2
  refine OwnX.cloned (mono_func d) (of_.kept hg ?_) q2.1 q2.2.1 q2.2.2.1 kp (fun _ h=>h) (fun g hg2 hg3=>by have h4:=(of_.lt g hg2).1;have h5:g<w.heap.size:=hg3;omega)
  cases e:(.slice B2 p.funcs.length e2:Value).ownBlock with
  |none=>exact .inl rfl
  |some q=>exact .inr (fun e2=>nf q e (sj e2))
theorem two_below {Wf X1 Y:World} {n1 c:Nat} {A:Option Addr} {T:TypeId} {xs:List Value} {o:Obj} (h1:Wf.grownBy X1 (.slice none 0 0:Value).ownBlock) (hrow:(X1.alloc o).ownsRow Wf.heap.size T 1 (.slice A n1 c) n1 xs) (h2:(X1.alloc o).grownBy Y (.slice A n1 c:Value).ownBlock):Below Wf.heap.size Wf Y:=by
 have hk:∀b,b<Wf.heap.size→Y.heap[b]?=Wf.heap[b]?:=fun b hb=>(h2.block b (by have:=h1.size;simp;omega) (fun e=>by have:=(hrow.lt b e.symm).1;omega)).trans ((Below.heap_alloc X1 o b (by have:=h1.size;omega)).trans (h1.block b hb (fun e=>by cases e)))
 refine ⟨h2.os.trans h1.os,h2.tape.trans h1.tape,h2.output.trans h1.output,?_,hk⟩
 have b:=h1.size;have c:=h2.size
 simp at c
 omega
def okG (gF rb:Nat) (X:World) (b:Nat):Prop:=b<X.heap.size∧b≠gF∧b≠rb
structure FnIn (d:Nat) (x:LFunc) (wc:World) (gF rb fb:Nat) (X:World) (f:LFunc) (Ap Al Ab:Option Addr) (np nl nb cp cl cb:Nat):Prop where
 below:Below wc.heap.size wc X
 blk:Blk X fb 49 #[.string f.name,.slice Ap np cp,.slice Al nl cl,.slice Ab nb cb]
 row:RFuncM d X (okG gF rb X) [.string f.name,.slice Ap np cp,.slice Al nl cl,.slice Ab nb cb] f
 par:f.params.length≤x.params.length+1
 loc:f.locals.length≤x.locals.length+1
 bod:f.body=x.body
theorem up_old {w wc X:World} {gF rb:Nat} (hw:Below w.heap.size w wc) (hX:Below wc.heap.size wc X) (h1:w.heap.size≤gF) (h2:w.heap.size≤rb):∀b,b<w.heap.size→okG gF rb X b:=fun b hb=>⟨by have:=hw.size;have:=hX.size;omega,by omega,by omega⟩
theorem kp_old {w wc X:World} (hw:Below w.heap.size w wc) (hX:Below wc.heap.size wc X):Keeps (· < w.heap.size) wc X:=fun b hb=>hX.block b (ltle hb hw.size)
theorem names_new {base nA:Nat} {X Y:World} {A:Option Addr} {c:Nat} {l:List ByteArray} {s:ByteArray} {gF rb fb:Nat} {u:Value} {i:Nat} (h:X.ownsRow base 9 1 (.slice A nA c) nA (([]++l.map Value.string)++[Value.string s])) (hY:X.setCell ⟨fb,i,none⟩ u=Y) (hf:fb<base) (hg:gF<base) (hr:rb<base):SlR Y (okG gF rb Y) 1 RStr (.slice A nA c) (l++[s])∧nA=(l++[s]).length:=by
 have hrow:Y.ownsRow base 9 1 (.slice A nA c) nA ((l++[s]).map encT):=by
  have h2:=h.kept (grown_set X ⟨fb,i,none⟩ u) (by
   cases e:(.slice A nA c:Value).ownBlock with
   |none=>exact .inl rfl
   |some q=>exact .inr (fun e2=>by have h3:=(h.lt q e).1;have h4:=sj e2;have h6:q=fb:=h4;omega))
  rw [hY] at h2
  rw [List.map_append]
  exact h2
 refine ⟨strs_of_own hrow (fun g hg2=>⟨(hrow.lt g hg2).2,by have:=(hrow.lt g hg2).1;omega,by have:=(hrow.lt g hg2).1;omega⟩),?_⟩
 have h3:=hrow.1
 simp at h3
 simp
 omega
def okR (rb:Nat) (X:World) (b:Nat):Prop:=b<X.heap.size∧b≠rb
theorem bent_end {d:Nat} {p q:LProg} {w Y Z:World} {A1 A2:Option Addr} {n1 n2 e1 e2 rb:Nat} (hY:Below w.heap.size w Y) (hr:w.heap.size≤rb) (ha:SlR Y (okR rb Y) 2 RArr (.slice A1 n1 e1) q.arrays) (hf:SlR Y (okR rb Y) 4 (RFunc d Y (okR rb Y)) (.slice A2 n2 e2) q.funcs) (hn1:n1=q.arrays.length) (hn2:n2=q.funcs.length)
  (b1:q.arrays.length=p.arrays.length) (b2:q.funcs.length=p.funcs.length) (b3:∀f∈q.funcs,∃f0∈p.funcs,f.params.length≤f0.params.length+1∧f.locals.length≤f0.locals.length+1∧f.body=f0.body)
  (hZ:(Y.setCell ⟨rb,0,none⟩ (.slice A1 n1 e1)).setCell ⟨rb,1,none⟩ (.slice A2 n2 e2)=Z) (e:Ending) (he:e=.returned (.agg #[.slice A1 n1 e1,.slice A2 n2 e2])):BentPost d p w e Z:=by
 have hs:Z.heap.size=Y.heap.size:=by rw [←hZ];simp [World.setCell]
 have hk:∀b,b≠rb→Z.heap[b]?=Y.heap[b]?:=fun b hb=>by
  rw [←hZ]
  exact (bhs _ ⟨rb,1,none⟩ _ b hb).trans (bhs _ ⟨rb,0,none⟩ _ b hb)
 have hb:Below w.heap.size w Z:=by
  rw [←hZ]
  exact (hY.setCell (p:=⟨rb,0,none⟩) hr _).setCell (p:=⟨rb,1,none⟩) hr _
 have up:∀b,okR rb Y b→b<Z.heap.size:=fun b hb2=>by have:=hb2.1;omega
 have kp:Keeps (okR rb Y) Y Z:=fun b hb2=>hk b hb2.2
 subst hn1 hn2
 exact ⟨q,A1,A2,e1,e2,he,hb,ha.imp up kp fun _ _ _ r=>r,hf.imp up kp fun _ _ _ r=>r.imp up kp,b1,b2,b3⟩
section
variable {d:Nat} {p:LProg} {w W wc:World} {ass fss:List (List Value)} {tb:Nat} {B1 B2:Option Addr} {n1 n2 e1 e2 rb:Nat}
theorem Cloned.rows (hC:Cloned d p w W ass fss wc tb B1 B2 n1 n2 e1 e2) (hw:Below w.heap.size w W) (hr1:w.heap.size≤rb) (hr2:rb<W.heap.size):SlR wc (okR rb wc) 2 RArr (.slice B1 n1 e1) p.arrays∧SlR wc (okR rb wc) 4 (RFunc d wc (okR rb wc)) (.slice B2 n2 e2) p.funcs:=by
 have hws:=hw.size
 have hbs:=hC.below.size
 have up:∀b,b<w.heap.size→okR rb wc b:=fun b hb=>⟨by omega,by omega⟩
 exact ⟨hC.arrs.slr mono_arr up (fun g hg=>⟨(hC.arrs.row.lt g hg).2,by have:=(hC.arrs.row.lt g hg).1;omega⟩),hC.funs.slr (mono_func d) up (fun g hg=>⟨(hC.funs.row.lt g hg).2,by have:=(hC.funs.row.lt g hg).1;omega⟩)⟩
theorem bent_same {Z:World} (hC:Cloned d p w W ass fss wc tb B1 B2 n1 n2 e1 e2) (hw:Below w.heap.size w W) (hn1:n1=p.arrays.length) (hn2:n2=p.funcs.length) (hr1:w.heap.size≤rb) (hr2:rb<W.heap.size)
  (hZ:(wc.setCell ⟨rb,0,none⟩ (.slice B1 n1 e1)).setCell ⟨rb,1,none⟩ (.slice B2 n2 e2)=Z) (e:Ending) (he:e=.returned (.agg #[.slice B1 n1 e1,.slice B2 n2 e2])):BentPost d p w e Z:=
 bent_end (hw.trans (hC.below.mono hw.size)) hr1 (hC.rows hw hr1 hr2).1 (hC.rows hw hr1 hr2).2 hn1 hn2 rfl rfl (fun f hf=>⟨f,hf,Nat.le_succ _,Nat.le_succ _,rfl⟩) hZ e he
theorem bent_name {Z:World} {gA:Nat} {s:ByteArray} (hC:Cloned d p w W ass fss wc tb (some ⟨gA,0,none⟩) B2 n1 n2 e1 e2) (hw:Below w.heap.size w W) (hn1:n1=p.arrays.length) (hn2:n2=p.funcs.length) (h0:0<n1) (hr1:w.heap.size≤rb) (hr2:rb<W.heap.size)
  (hZ:((wc.setCell ⟨gA,0,none⟩ (.string s)).setCell ⟨rb,0,none⟩ (.slice (some ⟨gA,0,none⟩) n1 e1)).setCell ⟨rb,1,none⟩ (.slice B2 n2 e2)=Z) (e:Ending) (he:e=.returned (.agg #[.slice (some ⟨gA,0,none⟩) n1 e1,.slice B2 n2 e2])):BentPost d p w e Z:=by
 have hws:=hw.size
 have hbs:=hC.below.size
 have hg1:=(hC.arrs.row.lt gA rfl).1
 have hg2:=(hC.arrs.row.lt gA rfl).2
 have hl:0<ass.length:=by rw [hC.arrs.len];omega
 have hp0:0<p.arrays.length:=by omega
 have hrow:=hC.arrs.elems 0 hl hp0
 have e0:ass[0]=[.string p.arrays[0].1,.int .i64 p.arrays[0].2]:=hrow
 have h1:=OwnX.put mono_arr hC.arrs hn1 (j:=0) (i:=0) (c:=.string s) (x:=(s,p.arrays[0].2)) hl (by decide) (by rw [e0];rfl)
 rw [show 0*2+0=0 from rfl] at h1
 have hbY:Below w.heap.size w (wc.setCell ⟨gA,0,none⟩ (.string s)):=(hw.trans (hC.below.mono hw.size)).setCell (p:=⟨gA,0,none⟩) (by show w.heap.size≤gA;omega) _
 have hsz:(wc.setCell ⟨gA,0,none⟩ (.string s)).heap.size=wc.heap.size:=by simp [World.setCell]
 have h2:SlR wc (fun b=>b<wc.heap.size∧b≠rb∧b≠gA) 4 (RFunc d wc (fun b=>b<wc.heap.size∧b≠rb∧b≠gA)) (.slice B2 n2 e2) p.funcs:=
  hC.funs.slr (mono_func d) (fun b hb=>⟨by have:b<w.heap.size:=hb;omega,by have:b<w.heap.size:=hb;omega,by have:b<w.heap.size:=hb;omega⟩) (fun g hg=>⟨(hC.funs.row.lt g hg).2,by have:=(hC.funs.row.lt g hg).1;omega,fun e=>hC.naf gA g rfl hg e.symm⟩)
 have up:∀b,(b<wc.heap.size∧b≠rb∧b≠gA)→okR rb (wc.setCell ⟨gA,0,none⟩ (.string s)) b:=fun b hb=>⟨by rw [hsz];exact hb.1,hb.2.1⟩
 have kp:Keeps (fun b=>b<wc.heap.size∧b≠rb∧b≠gA) wc (wc.setCell ⟨gA,0,none⟩ (.string s)):=fun b hb=>bhs wc ⟨gA,0,none⟩ _ b hb.2.2
 refine bent_end (p:=p) (q:=⟨p.arrays.set 0 (s,p.arrays[0].2),p.funcs⟩) hbY hr1 (h1.slr mono_arr (fun b hb=>⟨by rw [hsz];have:b<w.heap.size:=hb;omega,by have:b<w.heap.size:=hb;omega⟩) (fun g hg=>by have h3:gA=g:=(by simpa [Value.ownBlock] using hg);subst h3;exact ⟨by rw [hsz];exact hg2,by omega⟩)) (h2.imp up kp fun _ _ _ r=>r.imp up kp) (by show n1=(p.arrays.set 0 _).length;rw [List.length_set];exact hn1) hn2 (by show (p.arrays.set 0 _).length=_;rw [List.length_set]) rfl (fun f hf=>⟨f,hf,Nat.le_succ _,Nat.le_succ _,rfl⟩) hZ e he
theorem bent_done {Y Z:World} {gF k fb:Nat} {f:LFunc} {Ap Al Ab:Option Addr} {np nl nb cp cl cb:Nat} (hC:Cloned d p w W ass fss wc tb B1 (some ⟨gF,0,none⟩) n1 n2 e1 e2) (hw:Below w.heap.size w W) (hn1:n1=p.arrays.length) (hn2:n2=p.funcs.length) (hk:k<p.funcs.length)
  (hF:FnIn d p.funcs[k] wc gF rb fb Y f Ap Al Ab np nl nb cp cl cb) (hr1:w.heap.size≤rb) (hr2:rb<W.heap.size)
  (hZ:(((((Y.setCell ⟨gF,k*4,none⟩ (.string f.name)).setCell ⟨gF,k*4+1,none⟩ (.slice Ap np cp)).setCell ⟨gF,k*4+2,none⟩ (.slice Al nl cl)).setCell ⟨gF,k*4+3,none⟩ (.slice Ab nb cb)).setCell ⟨rb,0,none⟩ (.slice B1 n1 e1)).setCell ⟨rb,1,none⟩ (.slice (some ⟨gF,0,none⟩) n2 e2)=Z) (e:Ending) (he:e=.returned (.agg #[.slice B1 n1 e1,.slice (some ⟨gF,0,none⟩) n2 e2])):BentPost d p w e Z:=by
 have hws:=hw.size
 have hbs:=hC.below.size
 have hfs:=hF.below.size
 have hg1:=(hC.funs.row.lt gF rfl).1
 have hg2:=(hC.funs.row.lt gF rfl).2
 have hwc:Below w.heap.size w wc:=hw.trans (hC.below.mono hws)
 have hwY:Below w.heap.size w Y:=hwc.trans (hF.below.mono hwc.size)
 have h1:OwnX Y (okG gF rb Y) W.heap.size 49 4 (RFuncM d) (.slice (some ⟨gF,0,none⟩) n2 e2) p.funcs fss:=
  hC.funs.keep (mono_func d) (own_kept_any hC.funs.row hF.below) (up_old hwc hF.below (by omega) hr1) (kp_old hwc hF.below) (fun g hg h=>h.2.1 (by have h3:gF=g:=(by simpa [Value.ownBlock] using hg);exact h3.symm))
 have h2:=OwnX.put4 (mono_func d) h1 hn2 (j:=k) (by rw [hC.funs.len];exact hk) hF.row
 generalize hV:(((Y.setCell ⟨gF,k*4,none⟩ (.string f.name)).setCell ⟨gF,k*4+1,none⟩ (.slice Ap np cp)).setCell ⟨gF,k*4+2,none⟩ (.slice Al nl cl)).setCell ⟨gF,k*4+3,none⟩ (.slice Ab nb cb)=V at h2 hZ
 have hVs:V.heap.size=Y.heap.size:=by rw [←hV];simp [World.setCell]
 have hVk:∀b,b≠gF→V.heap[b]?=Y.heap[b]?:=fun b hb=>by
  rw [←hV]
  exact (bhs _ ⟨gF,k*4+3,none⟩ _ b hb).trans ((bhs _ ⟨gF,k*4+2,none⟩ _ b hb).trans ((bhs _ ⟨gF,k*4+1,none⟩ _ b hb).trans (bhs _ ⟨gF,k*4,none⟩ _ b hb)))
 have hVb:Below w.heap.size w V:=by
  rw [←hV]
  exact (((hwY.setCell (p:=⟨gF,k*4,none⟩) (by show w.heap.size≤gF;omega) _).setCell (p:=⟨gF,k*4+1,none⟩) (by show w.heap.size≤gF;omega) _).setCell (p:=⟨gF,k*4+2,none⟩) (by show w.heap.size≤gF;omega) _).setCell (p:=⟨gF,k*4+3,none⟩) (by show w.heap.size≤gF;omega) _
 have h3:SlR V (okR rb V) 4 (RFuncM d V (okR rb V)) (.slice (some ⟨gF,0,none⟩) n2 e2) (p.funcs.set k f):=
  h2.slr (mono_func d) (fun b hb=>⟨by rw [hVs];exact hb.1,hb.2.2⟩) (fun g hg=>by have h3:gF=g:=(by simpa [Value.ownBlock] using hg);exact ⟨by omega,by omega⟩)
 have h5:SlR wc (fun b=>b<wc.heap.size∧b≠gF∧b≠rb) 2 RArr (.slice B1 n1 e1) p.arrays:=
  hC.arrs.slr mono_arr (fun b hb=>⟨by have:b<w.heap.size:=hb;omega,by have:b<w.heap.size:=hb;omega,by have:b<w.heap.size:=hb;omega⟩) (fun g hg=>⟨(hC.arrs.row.lt g hg).2,fun e=>hC.naf g gF hg rfl e,by have:=(hC.arrs.row.lt g hg).1;omega⟩)
 have h6:SlR V (okR rb V) 2 RArr (.slice B1 n1 e1) p.arrays:=
  h5.imp (fun b h=>⟨by have:=h.1;omega,h.2.2⟩) (fun b hb=>(hVk b hb.2.1).trans (hF.below.block b hb.1)) fun _ _ _ r=>r
 refine bent_end (p:=p) (q:=⟨p.arrays,p.funcs.set k f⟩) hVb hr1 h6 h3 hn1 (by show n2=(p.funcs.set k f).length;rw [List.length_set];exact hn2) rfl (by show (p.funcs.set k f).length=_;rw [List.length_set]) (fun g hg=>?_) hZ e he
 rcases List.mem_or_eq_of_mem_set hg with h|h
 ·exact ⟨g,h,by omega,by omega,rfl⟩
 ·subst h
  exact ⟨p.funcs[k],List.getElem_mem _,hF.par,hF.loc,hF.bod⟩
end
section
set_option maxRecDepth 100000
set_option maxHeartbeats 8000000
theorem bent_any (d:Nat) (p:LProg) (A1 A2:Option Addr) (n1 n2 c1 c2:Nat) (hn1:n1=p.arrays.length) (hn2:n2=p.funcs.length) (which:Int) (hI:I64 which) (s:ByteArray) (w:World) (ha:SlR w (· < w.heap.size) 2 RArr (.slice A1 n1 c1) p.arrays) (hf:SlR w (· < w.heap.size) 4 (RFunc d w (· < w.heap.size)) (.slice A2 n2 c2) p.funcs) (hl1:n1≤400) (hl2:n2≤400) (hfew:∀f∈p.funcs,f.params.length≤400∧f.locals.length≤400) :
  Calls Tryz.prog 12 #[.agg #[.slice A1 n1 c1,.slice A2 n2 c2],.int .i64 which,.string s] w (BentPost d p w):=by
 obtain ⟨z0,hi0,hz0,hz1,hz2⟩:=info_parts info_string
 obtain ⟨za,ha0,ha1,ha2,ha3⟩:=info_parts info_arr
 obtain ⟨zf,hf0,hf1,hf2,hf3⟩:=info_parts info_func
 have HA:=Ω ha
 have HFU:=Ω hf
 have HN1:=Ω hn1
 have HN2:=Ω hn2
 have HI:=Ω hI
 have HFEW:=Ω hfew
 clear ha hf hn1 hn2 hI hfew
 go_enter Tryz.func12,Tryz.ntmps12
 go_upto_region 1 with fail
 refine wp_world ?_
 intro W hW
 have hB:Below w.heap.size w W:=by rw [←hW];exact below2 _ _ _
 have hp:Blk W w.heap.size 27 #[.slice A1 n1 c1,.slice A2 n2 c2]:=by rw [←hW];exact (Blk.new _ _ _).alloc _
 obtain ⟨rb,hrb⟩:∃b,w.heap.size+1=b:=⟨_,rfl⟩
 have hr:Blk W rb 27 #[.slice none 0 0,.slice none 0 0]:=by rw [←hW,←hrb];exact Blk.new_at _ _ _ (by simp)
 have hsz:W.heap.size=w.heap.size+2:=by rw [←hW];simp
 rw [hrb]
 obtain ⟨pb,hpb⟩:∃b,w.heap.size=b:=⟨_,rfl⟩
 have HPB:Hid (w.heap.size=pb∧rb=pb+1∧W.heap.size=pb+2):=Ω ⟨hpb,by omega,by omega⟩
 rw [hpb] at hp ⊢
 have HB:=Ω hB
 have HP:=Ω hp
 have HR:=Ω hr
 clear hW hB hp hr hsz hrb hpb
 have HA0:Hid (SlR W (· < w.heap.size) 2 RArr (.slice A1 n1 c1) p.arrays):=Ω (HA.out.imp (fun _ h=>h) (fun b hb=>HB.out.block b hb) fun _ _ _ r=>r)
 have HF0:Hid (SlR W (· < w.heap.size) 4 (RFunc d W (· < w.heap.size)) (.slice A2 n2 c2) p.funcs):=Ω (HFU.out.imp (fun _ h=>h) (fun b hb=>HB.out.block b hb) fun _ _ _ r=>r.imp (fun _ h=>h) (fun b hb=>HB.out.block b hb))
 obtain ⟨ass,q1,q2,q3,q4,q5,q6⟩:=news_rows HA0.out HN1.out (fun _ _=>ones_arr)
 obtain ⟨fss,s1,s2,s3,s4,s5,s6⟩:=news_rows HF0.out HN2.out (fun _ _=>ones_func)
 have HQ1:=Ω (And.intro q1 (And.intro q2 (And.intro q3 (And.intro q4 (And.intro q5 q6)))))
 have HQ2:=Ω (And.intro s1 (And.intro s2 (And.intro s3 (And.intro s4 (And.intro s5 s6)))))
 clear q1 q2 q3 q4 q5 q6 s1 s2 s3 s4 s5 s6 HA HFU
 go_cut [7] (fun t wx=>∃(tb:Nat) (B1 B2:Option Addr) (e1 e2:Nat),t=.pointer (some ⟨tb,0,none⟩)∧Cloned d p w W ass fss wx tb B1 B2 n1 n2 e1 e2)
 case first=>
  have SO:Hid (∀X,Below W.heap.size W X→(fun X=>X.cell? ⟨pb,0,none⟩=some (.slice A1 n1 c1)∧X.cell? ⟨pb,1,none⟩=some (.slice A2 n2 c2)) X):=Ω (fun X h=>⟨(HP.out.below h HP.out.lt).cell 0,(HP.out.below h HP.out.lt).cell 1⟩)
  refine wp_region_G 8 (fun X=>X.cell? ⟨pb,0,none⟩=some (.slice A1 n1 c1)∧X.cell? ⟨pb,1,none⟩=some (.slice A2 n2 c2)) (SO.out _ (Below.refl _ _).drew) ?_
  change GL _ _ _ _ _ 8 9 (Array.replicate 9 false) _ _
  have HX0:Hid (Below W.heap.size W W.drew):=Ω (Below.refl _ _).drew
  have HE0:Hid (W.drew.heap.size=W.heap.size):=Ω rfl
  obtain ⟨X0,hX0⟩:∃X0,W.drew=X0:=⟨_,rfl⟩
  rw [hX0] at HX0 HE0 ⊢
  clear hX0
  refine gj 0 (.pointer (some ⟨pb,0,none⟩)) ?_
  refine gS 1 (.slice A1 n1 c1) [8] ?_ ?_
  ·intro w2 hSw;obtain ⟨g0,g1⟩:=hSw;go_simp
  refine gj 3 (.pointer (some ⟨pb,1,none⟩)) ?_
  refine gS 4 (.slice A2 n2 c2) [8] ?_ ?_
  ·intro w2 hSw;obtain ⟨g0,g1⟩:=hSw;go_simp
  refine gR (rs:=[2,7]) ?_
  refine gC (fun K hK=>?_) (gC (fun K hK=>?_) AllReadyL.nil)
  ·refine step_append_any _ (by rfl) _ _ _ (by rfl) W.heap.size 53 za _ 2 24 Tryz.underlying24 ha0 ha1 ha2 ha3 rfl (by omega) (.slice none 0 0) 0 [] (by rfl) (World.ownsRow_nil _ _ _ _) A1 n1 c1 (ass.flatten) (by rfl) HQ1.out.2.2.2.1 (HQ1.out.2.2.2.2.1.imp id fun ⟨ad,ha,hc⟩=>⟨ad,ha,fun j u hu=>cell_keep HX0.out rfl (hc j u hu)⟩) HQ1.out.2.2.2.2.2 (by unfold maxLen;omega) (by omega) HX0.out.size X0.heap.size rfl ?_
   intro va X1 hown hgrow hat
   rw [show 0+n1=n1 from Nat.zero_add _] at hown
   rw [List.nil_append] at hown
   obtain ⟨B1,e1,hv⟩:=own_form hown
   subst hv
   have hbl:Below X0.heap.size X0 X1:=⟨hgrow.os,hgrow.tape,hgrow.output,hgrow.size,fun q hq=>hgrow.block q hq (fun e=>by cases e)⟩
   have HX1:=Ω (HX0.out.trans (hbl.mono HX0.out.size))
   have HL1:=Ω hbl
   have HOa:Hid (X1.ownsRow W.heap.size 53 2 (.slice B1 n1 e1) n1 ass.flatten):=Ω hown
   have HPa:Hid (∀g,(.slice B1 n1 e1:Value).ownBlock=some g→X0.heap.size≤g∧g<X1.heap.size):=Ω (fun g hg=>⟨by rcases (hat g hg).1 with h|h;cases h;omega,(hat g hg).2⟩)
   clear hown hgrow hat hbl
   refine hK.out _ _ (SO.out _ HX1.out) ?_
   clear hK K
   try simp only [sG]
   refine gR (rs:=[5,7]) ?_
   refine gC (fun K hK=>?_) (gC (fun K hK=>?_) AllReadyL.nil)
   ·refine step_append_any _ (by rfl) _ _ _ (by rfl) W.heap.size 49 zf _ 4 88 Tryz.underlying25 hf0 hf1 hf2 hf3 rfl (by omega) (.slice none 0 0) 0 [] (by rfl) (World.ownsRow_nil _ _ _ _) A2 n2 c2 (fss.flatten) (by rfl) HQ2.out.2.2.2.1 (HQ2.out.2.2.2.2.1.imp id fun ⟨ad,ha,hc⟩=>⟨ad,ha,fun j u hu=>cell_keep HX1.out rfl (hc j u hu)⟩) HQ2.out.2.2.2.2.2 (by unfold maxLen;omega) (by omega) HX1.out.size X1.heap.size rfl ?_
    intro vf X2 hown hgrow hat
    rw [show 0+n2=n2 from Nat.zero_add _] at hown
    rw [List.nil_append] at hown
    obtain ⟨B2,e2,hv⟩:=own_form hown
    subst hv
    have hbl:Below X1.heap.size X1 X2:=⟨hgrow.os,hgrow.tape,hgrow.output,hgrow.size,fun q hq=>hgrow.block q hq (fun e=>by cases e)⟩
    have HX2:=Ω (HX1.out.trans (hbl.mono HX1.out.size))
    have HL2:=Ω hbl
    have HOf:Hid (X2.ownsRow W.heap.size 49 4 (.slice B2 n2 e2) n2 fss.flatten):=Ω hown
    have HPf:Hid (∀g,(.slice B2 n2 e2:Value).ownBlock=some g→X1.heap.size≤g∧g<X2.heap.size):=Ω (fun g hg=>⟨by rcases (hat g hg).1 with h|h;cases h;omega,(hat g hg).2⟩)
    clear hown hgrow hat hbl
    refine hK.out _ _ (SO.out _ HX2.out) ?_
    clear hK K
    try simp only [sG]
    refine gj 6 (.agg #[.slice B1 n1 e1,.slice B2 n2 e2]) ?_ (ht:=rfl)
    try simp only [sG]
    refine gO 7 (fun K hK=>?_)
    go_simp
    obtain ⟨X3,hXX⟩:∃Z,X2.alloc (.cells #[.slice none 0 0,.slice none 0 0] 27)=Z:=⟨_,rfl⟩
    rw [hXX]
    have hbl:Below X2.heap.size X2 X3:=by rw [←hXX];exact below1 _ _
    have hq:Blk X3 X2.heap.size 27 #[.slice none 0 0,.slice none 0 0]:=by rw [←hXX];exact Blk.new _ _ _
    have HX3:=Ω (HX2.out.trans (hbl.mono HX2.out.size))
    have HL3:=Ω hbl
    obtain ⟨tb,htb⟩:∃b,X2.heap.size=b:=⟨_,rfl⟩
    rw [htb] at hq ⊢
    have HQB:=Ω hq
    have HTB:Hid (tb=X2.heap.size∧tb<X3.heap.size):=Ω ⟨htb.symm,hq.lt⟩
    clear hXX hbl hq htb
    refine hK.out _ _ (SO.out _ HX3.out) ?_
    clear hK K
    try simp only [sG]
    have HOA3:=Ω (own_kept_any HOa.out (HL2.out.trans ((HL3.out.trans ((Below.refl X3.heap.size X3).mono HL3.out.size)).mono HL2.out.size)))
    have HOF3:=Ω (own_kept_any HOf.out (HL3.out.trans ((Below.refl X3.heap.size X3).mono HL3.out.size)))
    have hqb:=HQB.out.below (Below.refl X3.heap.size X3) HQB.out.lt
    have HQ3:=Ω hqb
    have k0:=hqb.cell 0;have k1:=hqb.cell 1;have y0:=hqb.frozen 0;have y1:=hqb.frozen 1
    clear hqb
    refine gL (fun K hK=>?_)
    go_simp
    refine hK.out _ _ ?_
    clear hK K
    try simp only [sG]
    go_wp2
    go_meet
    case rel=>
     have s1:=HL1.out.size;have s2:=HL2.out.size;have s3:=HL3.out.size
     exact ⟨tb,B1,B2,e1,e2,rfl,cloned_of HB.out HX3.out HQ1.out HQ2.out HOA3.out HOF3.out HQ3.out (fun g h=>by have h1:=HPa.out g h;have h2:=HTB.out;omega) (fun g h=>by have h1:=HPf.out g h;have h2:=HTB.out;omega) (fun g g' h h'=>by have h1:=HPa.out g h;have h2:=HPf.out g' h';omega) (by have h2:=HTB.out;have h3:=HE0.out;omega)⟩
   ·go_simp
    obtain ⟨X2,hXX⟩:∃Z,X1.alloc (.cells #[.slice none 0 0,.slice none 0 0] 27)=Z:=⟨_,rfl⟩
    rw [hXX]
    have hbl:Below X1.heap.size X1 X2:=by rw [←hXX];exact below1 _ _
    have hq:Blk X2 X1.heap.size 27 #[.slice none 0 0,.slice none 0 0]:=by rw [←hXX];exact Blk.new _ _ _
    have HX2:=Ω (HX1.out.trans (hbl.mono HX1.out.size))
    have HL2:=Ω hbl
    obtain ⟨tb,htb⟩:∃b,X1.heap.size=b:=⟨_,rfl⟩
    rw [htb] at hq ⊢
    have HQB:=Ω hq
    have HTB:Hid (tb=X1.heap.size∧tb<X2.heap.size):=Ω ⟨htb.symm,hq.lt⟩
    clear hXX hbl hq htb
    refine hK.out _ _ (SO.out _ HX2.out) ?_
    clear hK K
    try simp only [sG]
    refine gO 5 (fun K hK=>?_)
    refine step_append_any _ (by rfl) _ _ _ (by rfl) W.heap.size 49 zf _ 4 88 Tryz.underlying25 hf0 hf1 hf2 hf3 rfl (by omega) (.slice none 0 0) 0 [] (by rfl) (World.ownsRow_nil _ _ _ _) A2 n2 c2 (fss.flatten) (by rfl) HQ2.out.2.2.2.1 (HQ2.out.2.2.2.2.1.imp id fun ⟨ad,ha,hc⟩=>⟨ad,ha,fun j u hu=>cell_keep HX2.out rfl (hc j u hu)⟩) HQ2.out.2.2.2.2.2 (by unfold maxLen;omega) (by omega) HX2.out.size X2.heap.size rfl ?_
    intro vf X3 hown hgrow hat
    rw [show 0+n2=n2 from Nat.zero_add _] at hown
    rw [List.nil_append] at hown
    obtain ⟨B2,e2,hv⟩:=own_form hown
    subst hv
    have hbl:Below X2.heap.size X2 X3:=⟨hgrow.os,hgrow.tape,hgrow.output,hgrow.size,fun q hq=>hgrow.block q hq (fun e=>by cases e)⟩
    have HX3:=Ω (HX2.out.trans (hbl.mono HX2.out.size))
    have HL3:=Ω hbl
    have HOf:Hid (X3.ownsRow W.heap.size 49 4 (.slice B2 n2 e2) n2 fss.flatten):=Ω hown
    have HPf:Hid (∀g,(.slice B2 n2 e2:Value).ownBlock=some g→X2.heap.size≤g∧g<X3.heap.size):=Ω (fun g hg=>⟨by rcases (hat g hg).1 with h|h;cases h;omega,(hat g hg).2⟩)
    clear hown hgrow hat hbl
    refine hK.out _ _ (SO.out _ HX3.out) ?_
    clear hK K
    try simp only [sG]
    refine gj 6 (.agg #[.slice B1 n1 e1,.slice B2 n2 e2]) ?_ (ht:=rfl)
    try simp only [sG]
    have HOA3:=Ω (own_kept_any HOa.out (HL2.out.trans ((HL3.out.trans ((Below.refl X3.heap.size X3).mono HL3.out.size)).mono HL2.out.size)))
    have HOF3:=Ω (own_kept_any HOf.out (Below.refl X3.heap.size X3))
    have hqb:=HQB.out.below (HL3.out.trans ((Below.refl X3.heap.size X3).mono HL3.out.size)) HQB.out.lt
    have HQ3:=Ω hqb
    have k0:=hqb.cell 0;have k1:=hqb.cell 1;have y0:=hqb.frozen 0;have y1:=hqb.frozen 1
    clear hqb
    refine gL (fun K hK=>?_)
    go_simp
    refine hK.out _ _ ?_
    clear hK K
    try simp only [sG]
    go_wp2
    go_meet
    case rel=>
     have s1:=HL1.out.size;have s2:=HL2.out.size;have s3:=HL3.out.size
     exact ⟨tb,B1,B2,e1,e2,rfl,cloned_of HB.out HX3.out HQ1.out HQ2.out HOA3.out HOF3.out HQ3.out (fun g h=>by have h1:=HPa.out g h;have h2:=HTB.out;omega) (fun g h=>by have h1:=HPf.out g h;have h2:=HTB.out;omega) (fun g g' h h'=>by have h1:=HPa.out g h;have h2:=HPf.out g' h';omega) (by have h2:=HTB.out;have h3:=HE0.out;omega)⟩
  ·go_simp
   obtain ⟨X1,hXX⟩:∃Z,X0.alloc (.cells #[.slice none 0 0,.slice none 0 0] 27)=Z:=⟨_,rfl⟩
   rw [hXX]
   have hbl:Below X0.heap.size X0 X1:=by rw [←hXX];exact below1 _ _
   have hq:Blk X1 X0.heap.size 27 #[.slice none 0 0,.slice none 0 0]:=by rw [←hXX];exact Blk.new _ _ _
   have HX1:=Ω (HX0.out.trans (hbl.mono HX0.out.size))
   have HL1:=Ω hbl
   obtain ⟨tb,htb⟩:∃b,X0.heap.size=b:=⟨_,rfl⟩
   rw [htb] at hq ⊢
   have HQB:=Ω hq
   have HTB:Hid (tb=X0.heap.size∧tb<X1.heap.size):=Ω ⟨htb.symm,hq.lt⟩
   clear hXX hbl hq htb
   refine hK.out _ _ (SO.out _ HX1.out) ?_
   clear hK K
   try simp only [sG]
   refine gO 2 (fun K hK=>?_)
   refine step_append_any _ (by rfl) _ _ _ (by rfl) W.heap.size 53 za _ 2 24 Tryz.underlying24 ha0 ha1 ha2 ha3 rfl (by omega) (.slice none 0 0) 0 [] (by rfl) (World.ownsRow_nil _ _ _ _) A1 n1 c1 (ass.flatten) (by rfl) HQ1.out.2.2.2.1 (HQ1.out.2.2.2.2.1.imp id fun ⟨ad,ha,hc⟩=>⟨ad,ha,fun j u hu=>cell_keep HX1.out rfl (hc j u hu)⟩) HQ1.out.2.2.2.2.2 (by unfold maxLen;omega) (by omega) HX1.out.size X1.heap.size rfl ?_
   intro va X2 hown hgrow hat
   rw [show 0+n1=n1 from Nat.zero_add _] at hown
   rw [List.nil_append] at hown
   obtain ⟨B1,e1,hv⟩:=own_form hown
   subst hv
   have hbl:Below X1.heap.size X1 X2:=⟨hgrow.os,hgrow.tape,hgrow.output,hgrow.size,fun q hq=>hgrow.block q hq (fun e=>by cases e)⟩
   have HX2:=Ω (HX1.out.trans (hbl.mono HX1.out.size))
   have HL2:=Ω hbl
   have HOa:Hid (X2.ownsRow W.heap.size 53 2 (.slice B1 n1 e1) n1 ass.flatten):=Ω hown
   have HPa:Hid (∀g,(.slice B1 n1 e1:Value).ownBlock=some g→X1.heap.size≤g∧g<X2.heap.size):=Ω (fun g hg=>⟨by rcases (hat g hg).1 with h|h;cases h;omega,(hat g hg).2⟩)
   clear hown hgrow hat hbl
   refine hK.out _ _ (SO.out _ HX2.out) ?_
   clear hK K
   try simp only [sG]
   refine gO 5 (fun K hK=>?_)
   refine step_append_any _ (by rfl) _ _ _ (by rfl) W.heap.size 49 zf _ 4 88 Tryz.underlying25 hf0 hf1 hf2 hf3 rfl (by omega) (.slice none 0 0) 0 [] (by rfl) (World.ownsRow_nil _ _ _ _) A2 n2 c2 (fss.flatten) (by rfl) HQ2.out.2.2.2.1 (HQ2.out.2.2.2.2.1.imp id fun ⟨ad,ha,hc⟩=>⟨ad,ha,fun j u hu=>cell_keep HX2.out rfl (hc j u hu)⟩) HQ2.out.2.2.2.2.2 (by unfold maxLen;omega) (by omega) HX2.out.size X2.heap.size rfl ?_
   intro vf X3 hown hgrow hat
   rw [show 0+n2=n2 from Nat.zero_add _] at hown
   rw [List.nil_append] at hown
   obtain ⟨B2,e2,hv⟩:=own_form hown
   subst hv
   have hbl:Below X2.heap.size X2 X3:=⟨hgrow.os,hgrow.tape,hgrow.output,hgrow.size,fun q hq=>hgrow.block q hq (fun e=>by cases e)⟩
   have HX3:=Ω (HX2.out.trans (hbl.mono HX2.out.size))
   have HL3:=Ω hbl
   have HOf:Hid (X3.ownsRow W.heap.size 49 4 (.slice B2 n2 e2) n2 fss.flatten):=Ω hown
   have HPf:Hid (∀g,(.slice B2 n2 e2:Value).ownBlock=some g→X2.heap.size≤g∧g<X3.heap.size):=Ω (fun g hg=>⟨by rcases (hat g hg).1 with h|h;cases h;omega,(hat g hg).2⟩)
   clear hown hgrow hat hbl
   refine hK.out _ _ (SO.out _ HX3.out) ?_
   clear hK K
   try simp only [sG]
   refine gj 6 (.agg #[.slice B1 n1 e1,.slice B2 n2 e2]) ?_ (ht:=rfl)
   try simp only [sG]
   have HOA3:=Ω (own_kept_any HOa.out (HL3.out.trans ((Below.refl X3.heap.size X3).mono HL3.out.size)))
   have HOF3:=Ω (own_kept_any HOf.out (Below.refl X3.heap.size X3))
   have hqb:=HQB.out.below (HL2.out.trans ((HL3.out.trans ((Below.refl X3.heap.size X3).mono HL3.out.size)).mono HL2.out.size)) HQB.out.lt
   have HQ3:=Ω hqb
   have k0:=hqb.cell 0;have k1:=hqb.cell 1;have y0:=hqb.frozen 0;have y1:=hqb.frozen 1
   clear hqb
   refine gL (fun K hK=>?_)
   go_simp
   refine hK.out _ _ ?_
   clear hK K
   try simp only [sG]
   go_wp2
   go_meet
   case rel=>
    have s1:=HL1.out.size;have s2:=HL2.out.size;have s3:=HL3.out.size
    exact ⟨tb,B1,B2,e1,e2,rfl,cloned_of HB.out HX3.out HQ1.out HQ2.out HOA3.out HOF3.out HQ3.out (fun g h=>by have h1:=HPa.out g h;have h2:=HTB.out;omega) (fun g h=>by have h1:=HPf.out g h;have h2:=HTB.out;omega) (fun g g' h h'=>by have h1:=HPa.out g h;have h2:=HPf.out g' h';omega) (by have h2:=HTB.out;have h3:=HE0.out;omega)⟩
 case rest=>
 obtain ⟨tb,B1,B2,e1,e2,rfl,hc⟩:=hcut
 obtain ⟨V,hVV⟩:∃v,v=wc:=⟨_,rfl⟩
 subst hVV
 have HC:=Ω hc
 have t0:=hc.blk.cell 0;have t1:=hc.blk.cell 1
 have hrbc:=HR.out.below hc.below HR.out.lt
 have HRC:=Ω hrbc
 have HTB:Hid (W.heap.size≤tb∧tb<V.heap.size):=Ω ⟨hc.tbl,hc.blk.lt⟩
 have HWC:Hid (Below w.heap.size w V):=Ω (HB.out.trans (hc.below.mono HB.out.size))
 have HRA:Hid (V.ownsRow W.heap.size 53 2 (.slice B1 n1 e1) n1 ass.flatten):=Ω (by have h:=hc.arrs.row;rw [←HN1.out] at h;exact h)
 have HRF:Hid (V.ownsRow W.heap.size 49 4 (.slice B2 n2 e2) n2 fss.flatten):=Ω (by have h:=hc.funs.row;rw [←HN2.out] at h;exact h)
 clear hc hrbc HQ1 HQ2 HA0 HF0
 obtain ⟨k,hk,-,hpk⟩:=pick5_n (wrap64 (which.tdiv 4)) (wrap_inF _) (1+n2) (by omega)
 rw [show ((1+n2:Nat):Int)=1+(n2:Int) by omega] at hpk
 have HPK:=Ω hpk
 clear hpk
 go_upto_region 3 with (go_at_call 19;refine (HPK.out _).mono ?_;rintro e W4 ⟨rfl,hw⟩;subst hw)
 clear HPK
 by_cases hkn:k=n2
 case pos=>
  have d1:((k:Int) == (n2:Int))=true:=beq_iff_eq.2 (by omega)
  clear hkn hk
  rcases Nat.eq_zero_or_pos n1 with hz|hz
  case inl=>
   subst hz
   have r0:=HRC.out.cell 0;have r1:=HRC.out.cell 1;have rf0:=HRC.out.frozen 0;have rf1:=HRC.out.frozen 1
   go_wp2
   refine bodyPost_ret (v:=.agg #[.slice B1 0 e1,.slice B2 n2 e2]) (results_cell_row (p:=6) (ty:=27) (by kernel_rfl) _ _ rb 27 _ (0,0) _ rfl ((HRC.out.set_ 0 _).set_ 1 _) Tryz.underlying27 rfl (by kernel_rfl)) rfl ?_
   exact bent_same HC.out HB.out HN1.out HN2.out (by have:=HPB.out;omega) (by have:=HPB.out;omega) rfl _ rfl
  case inr=>
   have d2:decide ((n1:Int) > 0)=true:=dT (by omega)
   have d3:decide (0<(n1:Int))=true:=dT (by omega)
   have d4:(0:Int)<(n1:Int):=by omega
   obtain ⟨gA,e1',hvA,hgA1,hgA2,_⟩:=own_some HRA.out hz
   obtain ⟨rfl,rfl⟩:B1=some ⟨gA,0,none⟩∧e1=e1':=by injection hvA with h1 _ h2;exact ⟨h1,h2⟩
   have af:=HC.out.arrs.frozen HN1.out 0
   obtain ⟨u0,ac⟩:∃u,V.cell? ⟨gA,0,none⟩=some u:=own_cell HRA.out 0 (by omega)
   have hgt:gA≠tb:=HC.out.na gA rfl
   have htg:tb≠gA:=fun e=>hgt e.symm
   have hgr:gA≠rb:=by have:=HPB.out;omega
   have hrg:rb≠gA:=fun e=>hgr e.symm
   have r0:=HRC.out.cell 0;have r1:=HRC.out.cell 1;have rf0:=HRC.out.frozen 0;have rf1:=HRC.out.frozen 1
   clear hvA hgA1 hgA2
   go_wp2
   refine bodyPost_ret (v:=.agg #[.slice (some ⟨gA,0,none⟩) n1 e1,.slice B2 n2 e2]) (results_cell_row (p:=6) (ty:=27) (by kernel_rfl) _ _ rb 27 _ (0,0) _ rfl (((HRC.out.far (p:=⟨gA,0,none⟩) hrg _).set_ 0 _).set_ 1 _) Tryz.underlying27 rfl (by kernel_rfl)) rfl ?_
   exact bent_name HC.out HB.out HN1.out HN2.out hz (by have:=HPB.out;omega) (by have:=HPB.out;omega) rfl _ rfl
 case neg=>
 have hk2:k<n2:=by omega
 have d1:((k:Int) == (n2:Int))=false:=beq_eq_false_iff_ne.2 (by omega)
 have hk1:(k:Int)<(n2:Int):=by omega
 have hk0:¬(k:Int)<0:=by omega
 have hkl:k<p.funcs.length:=by rw [←HN2.out];exact hk2
 obtain ⟨gF,e2',hvF,hgF1,hgF2,_⟩:=own_some HRF.out (show 0<n2 by omega)
 obtain ⟨rfl,rfl⟩:B2=some ⟨gF,0,none⟩∧e2=e2':=by injection hvF with h1 _ h2;exact ⟨h1,h2⟩
 have hlen:=HC.out.funs.len
 obtain ⟨vp,vl,vb,hcs,hpar,hloc,hbod⟩:=HC.out.funs.elems k (by omega) hkl
 obtain ⟨x,hx⟩:∃x,x=p.funcs[k]:=⟨_,rfl⟩
 rw [←hx] at hcs hpar hloc hbod
 have hcell:∀(j:Nat) (hj:j<4),V.cell? ⟨gF,k*4+j,none⟩=some ([Value.string x.name,vp,vl,vb][j]'(by simpa using hj)):=fun j hj=>by
  have h:=HC.out.funs.cell HN2.out (j:=k) (i:=j) (by omega) (by rw [hcs];exact hj)
  simp only [hcs] at h
  exact h
 obtain ⟨Ap,cp,hvp,_,_⟩:=hpar.val
 obtain ⟨Al,cl,hvl,hlc,_⟩:=hloc.val
 obtain ⟨Ab,cb,hvb,_,_⟩:=hbod.val
 obtain ⟨nl,hnl⟩:∃n,n=x.locals.length:=⟨_,rfl⟩
 obtain ⟨np,hnp⟩:∃n,n=x.params.length:=⟨_,rfl⟩
 obtain ⟨nb,hnb⟩:∃n,n=x.body.length:=⟨_,rfl⟩
 rw [←hnp] at hvp;rw [←hnl] at hvl hlc;rw [←hnb] at hvb
 subst hvp hvl hvb
 have i0:V.cell? ⟨gF,k*4,none⟩=some (.string x.name):=hcell 0 (by omega)
 have i1:V.cell? ⟨gF,k*4+1,none⟩=some (.slice Ap np cp):=hcell 1 (by omega)
 have i2:V.cell? ⟨gF,k*4+2,none⟩=some (.slice Al nl cl):=hcell 2 (by omega)
 have i3:V.cell? ⟨gF,k*4+3,none⟩=some (.slice Ab nb cb):=hcell 3 (by omega)
 have hxm:x∈p.funcs:=by rw [hx];exact List.getElem_mem _
 have hnl9:nl≤400:=by rw [hnl];exact (HFEW.out x hxm).2
 have hnp9:np≤400:=by rw [hnp];exact (HFEW.out x hxm).1
 have HPAR:Hid (SlR V (· < w.heap.size) 1 RStr (.slice Ap np cp) x.params):=Ω hpar
 have HLOC:Hid (SlR V (· < w.heap.size) 1 RStr (.slice Al nl cl) x.locals):=Ω hloc
 have HBOD:Hid (SlR V (· < w.heap.size) 5 (RStmt d V (· < w.heap.size)) (.slice Ab nb cb) x.body):=Ω hbod
 have HGF:Hid (W.heap.size≤gF∧gF<V.heap.size∧gF≠tb∧gF≠rb):=Ω ⟨hgF1,hgF2,HC.out.nf gF rfl,by have:=HPB.out;omega⟩
 have HX:=Ω hx;have HNL:=Ω hnl;have HNP:=Ω hnp;have HKL:=Ω hkl
 clear hlen hcs hpar hloc hbod hx hcell hnl hnp hnb hxm hvF hgF1 hgF2 hk hkn
 go_upto_region 8 with fail
 refine wp_world ?_
 intro W8 hW8
 have hb8:Below V.heap.size V W8:=by rw [←hW8];exact below1 _ _
 have hfb:Blk W8 V.heap.size 49 #[.string x.name,.slice Ap np cp,.slice Al nl cl,.slice Ab nb cb]:=by rw [←hW8];exact Blk.new _ _ _
 obtain ⟨fb,hfe⟩:∃b,V.heap.size=b:=⟨_,rfl⟩
 rw [hfe] at hfb ⊢
 have HB8:=Ω hb8;have HFB:=Ω hfb;have HFE:Hid (V.heap.size=fb∧fb<W8.heap.size):=Ω ⟨hfe,hfb.lt⟩
 have HFNF:Hid (∀(f:LFunc) (X:World) (Ap Al:Option Addr) (np nl cp cl:Nat),Below V.heap.size V X→Blk X fb 49 #[.string f.name,.slice Ap np cp,.slice Al nl cl,.slice Ab nb cb]→np=f.params.length→nl=f.locals.length→SlR X (okG gF rb X) 1 RStr (.slice Ap np cp) f.params→SlR X (okG gF rb X) 1 RStr (.slice Al nl cl) f.locals→f.params.length≤x.params.length+1→f.locals.length≤x.locals.length+1→f.body=x.body→FnIn d x V gF rb fb X f Ap Al Ab np nl nb cp cl cb):=Ω (fun f X Ap Al np nl cp cl hX hb e1 e2 h1 h2 b1 b2 b3=>by
  refine ⟨hX,hb,⟨_,_,_,rfl,h1,h2,?_⟩,b1,b2,b3⟩
  rw [b3]
  have up:=up_old (gF:=gF) (rb:=rb) HWC.out hX (by have:=HGF.out;have:=HB.out.size;omega) (by have:=HPB.out;omega)
  have kp:=kp_old HWC.out hX
  exact HBOD.out.imp up kp fun _ _ _ r=>RStmt.imp up kp _ r)
 have HOLD:Hid (∀X,Below V.heap.size V X→SlR X (okG gF rb X) 1 RStr (.slice Ap np cp) x.params∧SlR X (okG gF rb X) 1 RStr (.slice Al nl cl) x.locals):=Ω (fun X hX=>by
  have up:=up_old (gF:=gF) (rb:=rb) HWC.out hX (by have:=HGF.out;have:=HB.out.size;omega) (by have:=HPB.out;omega)
  have kp:=kp_old HWC.out hX
  exact ⟨HPAR.out.imp up kp fun _ _ _ r=>r,HLOC.out.imp up kp fun _ _ _ r=>r⟩)
 have t0:=(HC.out.blk.below hb8 HTB.out.2).cell 0;have t1:=(HC.out.blk.below hb8 HTB.out.2).cell 1
 obtain ⟨m,hm,-,hpm⟩:=pick5_n which HI.out 4 (by omega)
 rw [show ((4:Nat):Int)=4 from rfl] at hpm
 have HPM:=Ω hpm
 clear hW8 hb8 hfb hfe hpm i0 i1 i2 i3
 go_upto_block 0 with (go_at_call 19;refine (HPM.out _).mono ?_;rintro e W4 ⟨rfl,hw⟩;subst hw)
 clear HPM
 go_cut [] (fun wx=>∃(f:LFunc) (Bp Bl:Option Addr) (mp ml ep el:Nat),FnIn d x V gF rb fb wx f Bp Bl Ab mp ml nb ep el cb)
 case first=>
  have f0:=HFB.out.cell 0;have y0:=HFB.out.frozen 0
  have f1:=HFB.out.cell 1;have y1:=HFB.out.frozen 1
  have f2:=HFB.out.cell 2;have y2:=HFB.out.frozen 2
  have f3:=HFB.out.cell 3;have y3:=HFB.out.frozen 3
  rcases (by omega:m=0∨m=1∨m=2∨m=3) with rfl|rfl|rfl|rfl
  case inl=>
   go_wp2
   go_meet
   case rel=>
    have hX:=HB8.out.setCell (p:=⟨fb,0,none⟩) (by show V.heap.size≤fb;have:=HFE.out;omega) (.string s)
    exact ⟨{ x with name:=s },Ap,Al,np,nl,cp,cl,HFNF.out { x with name:=s } _ Ap Al np nl cp cl hX (HFB.out.set_ 0 _) HNP.out HNL.out (HOLD.out _ hX).1 (HOLD.out _ hX).2 (Nat.le_succ _) (Nat.le_succ _) rfl⟩
  case inr.inl=>
   have hnw:=news_strs (HPAR.out.imp (ok':=fun _=>True) (fun _ _=>trivial) (fun b hb=>HB8.out.block b (ltle hb HWC.out.size)) (fun _ _ _ r=>r)) HNP.out
   have HNW:=Ω hnw
   clear hnw
   go_wp2_with (at_builtin;first|(refine wpList_append_any _ rfl (.const (.slice none 0 0)) (.tmp 65) _ rfl W8.heap.size 9 z0 _ 1 16 Tryz.underlying47 hi0 hz0 hz1 hz2 rfl (by decide) (.slice none 0 0) 0 [] rfl (World.ownsRow_nil _ _ _ _) Ap np cp (x.params.map Value.string) rfl HNW.out.1 HNW.out.2.1 HNW.out.2.2 (by unfold maxLen;omega) (by omega) (Nat.le_refl _) W8.heap.size rfl ?_;intro v1 X1 hown1 hgrow1 hat1;obtain ⟨Av1,cv1,hv1⟩:=own_form hown1;subst hv1;obtain ⟨m1,hm1⟩:∃n,n=0+np:=⟨_,rfl⟩;rw [←hm1] at hown1 ⊢;have hm9:m1≤400:=(by omega);have HM1:=Ω hm1;have HO1:=Ω (hown1.alloc (.cells #[.string s] 9));have HG1:=Ω hgrow1;have HZ1:Hid (W8.heap.size≤X1.heap.size):=Ω hgrow1.size;clear hm1 hown1 hgrow1 hat1)|(refine wpList_append_any _ rfl (.tmp 66) (.tmp 68) _ rfl W8.heap.size 9 z0 _ 1 16 Tryz.underlying47 hi0 hz0 hz1 hz2 rfl (by decide) (.slice Av1 m1 cv1) m1 ([]++x.params.map Value.string) rfl HO1.out (some ⟨X1.heap.size,0,none⟩) 1 1 [.string s] rfl rfl (Or.inr ⟨⟨X1.heap.size,0,none⟩,rfl,World.news_of_block (cs:=#[.string s]) (t:=9) (fr:=(0,0)) (Blk.new _ _ _)⟩) (by simp [Value.oneCell']) (by unfold maxLen;omega) (by omega) (by have:=HZ1.out;simp;omega) (X1.heap.size+1) (by simp) ?_;intro v2 X2 hown2 hgrow2 hat2;obtain ⟨Av2,cv2,hv2⟩:=own_form hown2;subst hv2;have hX2:=two_below HG1.out HO1.out hgrow2;have HO2:=Ω hown2;have HX2:=Ω hX2;have hfx:=HFB.out.below hX2 HFE.out.2;have HFX:=Ω hfx;have k1:=hfx.cell 1;have z1:=hfx.frozen 1;clear hown2 hgrow2 hat2 hX2 hfx))
   go_meet
   case rel=>
    have hX:=(HB8.out.trans (HX2.out.mono HB8.out.size)).setCell (p:=⟨fb,1,none⟩) (by show V.heap.size≤fb;have:=HFE.out;omega) (.slice Av2 (m1+1) cv2)
    have hnn:=names_new (gF:=gF) (rb:=rb) (fb:=fb) (u:=.slice Av2 (m1+1) cv2) (i:=1) HO2.out rfl HFE.out.2 (by have:=HGF.out;have:=HFE.out;omega) (by have:=HPB.out;have:=HFE.out;have:=HTB.out;omega)
    exact ⟨{ x with params:=x.params++[s] },Av2,Al,m1+1,nl,cv2,cl,HFNF.out { x with params:=x.params++[s] } _ Av2 Al (m1+1) nl cv2 cl hX (HFX.out.set_ 1 _) hnn.2 HNL.out hnn.1 (HOLD.out _ hX).2 (by show (x.params++[s]).length≤_;simp) (Nat.le_succ _) rfl⟩
  case inr.inr.inl=>
   have hnw:=news_strs (HLOC.out.imp (ok':=fun _=>True) (fun _ _=>trivial) (fun b hb=>HB8.out.block b (ltle hb HWC.out.size)) (fun _ _ _ r=>r)) HNL.out
   have HNW:=Ω hnw
   clear hnw
   go_wp2_with (at_builtin;first|(refine wpList_append_any _ rfl (.const (.slice none 0 0)) (.tmp 74) _ rfl W8.heap.size 9 z0 _ 1 16 Tryz.underlying47 hi0 hz0 hz1 hz2 rfl (by decide) (.slice none 0 0) 0 [] rfl (World.ownsRow_nil _ _ _ _) Al nl cl (x.locals.map Value.string) rfl HNW.out.1 HNW.out.2.1 HNW.out.2.2 (by unfold maxLen;omega) (by omega) (Nat.le_refl _) W8.heap.size rfl ?_;intro v1 X1 hown1 hgrow1 hat1;obtain ⟨Av1,cv1,hv1⟩:=own_form hown1;subst hv1;obtain ⟨m1,hm1⟩:∃n,n=0+nl:=⟨_,rfl⟩;rw [←hm1] at hown1 ⊢;have hm9:m1≤400:=(by omega);have HM1:=Ω hm1;have HO1:=Ω (hown1.alloc (.cells #[.string s] 9));have HG1:=Ω hgrow1;have HZ1:Hid (W8.heap.size≤X1.heap.size):=Ω hgrow1.size;clear hm1 hown1 hgrow1 hat1)|(refine wpList_append_any _ rfl (.tmp 75) (.tmp 77) _ rfl W8.heap.size 9 z0 _ 1 16 Tryz.underlying47 hi0 hz0 hz1 hz2 rfl (by decide) (.slice Av1 m1 cv1) m1 ([]++x.locals.map Value.string) rfl HO1.out (some ⟨X1.heap.size,0,none⟩) 1 1 [.string s] rfl rfl (Or.inr ⟨⟨X1.heap.size,0,none⟩,rfl,World.news_of_block (cs:=#[.string s]) (t:=9) (fr:=(0,0)) (Blk.new _ _ _)⟩) (by simp [Value.oneCell']) (by unfold maxLen;omega) (by omega) (by have:=HZ1.out;simp;omega) (X1.heap.size+1) (by simp) ?_;intro v2 X2 hown2 hgrow2 hat2;obtain ⟨Av2,cv2,hv2⟩:=own_form hown2;subst hv2;have hX2:=two_below HG1.out HO1.out hgrow2;have HO2:=Ω hown2;have HX2:=Ω hX2;have hfx:=HFB.out.below hX2 HFE.out.2;have HFX:=Ω hfx;have k1:=hfx.cell 2;have z1:=hfx.frozen 2;clear hown2 hgrow2 hat2 hX2 hfx))
   go_meet
   case rel=>
    have hX:=(HB8.out.trans (HX2.out.mono HB8.out.size)).setCell (p:=⟨fb,2,none⟩) (by show V.heap.size≤fb;have:=HFE.out;omega) (.slice Av2 (m1+1) cv2)
    have hnn:=names_new (gF:=gF) (rb:=rb) (fb:=fb) (u:=.slice Av2 (m1+1) cv2) (i:=2) HO2.out rfl HFE.out.2 (by have:=HGF.out;have:=HFE.out;omega) (by have:=HPB.out;have:=HFE.out;have:=HTB.out;omega)
    exact ⟨{ x with locals:=x.locals++[s] },Ap,Av2,np,m1+1,cp,cv2,HFNF.out { x with locals:=x.locals++[s] } _ Ap Av2 np (m1+1) cp cv2 hX (HFX.out.set_ 2 _) HNP.out hnn.2 (HOLD.out _ hX).1 hnn.1 (Nat.le_succ _) (by show (x.locals++[s]).length≤_;simp) rfl⟩
  case inr.inr.inr=>
   rcases Nat.eq_zero_or_pos nl with hz|hz
   case inl=>
    subst hz
    go_wp2
    go_meet
    case rel=>exact ⟨x,Ap,Al,np,0,cp,cl,HFNF.out x _ Ap Al np 0 cp cl HB8.out HFB.out HNP.out HNL.out (HOLD.out _ HB8.out).1 (HOLD.out _ HB8.out).2 (Nat.le_succ _) (Nat.le_succ _) rfl⟩
   case inr=>
    obtain ⟨nl',hnl'⟩:∃m,nl=m+1:=⟨nl-1,by omega⟩
    subst hnl'
    have d5:decide (((nl'+1:Nat):Int) > 0)=true:=dT (by omega)
    have d6:decide (0<((nl'+1:Nat):Int))=true:=dT (by omega)
    have d7:decide (0<(nl':Int)+1)=true:=dT (by omega)
    have d8:(nl':Int)≤(nl':Int)+1:=by omega
    have d9:nl'≤cl:=by omega
    have d10:(nl':Int)≤(cl:Int):=by omega
    have d11:((nl'+1:Nat):Int)-1=(nl':Int):=by omega
    go_wp2
    go_meet
    case rel=>
     have hX:=HB8.out.setCell (p:=⟨fb,2,none⟩) (by show V.heap.size≤fb;have:=HFE.out;omega) (.slice Al nl' cl)
     have hlx:nl'+1=x.locals.length:=HNL.out
     exact ⟨{ x with locals:=x.locals.take nl' },Ap,Al,np,nl',cp,cl,HFNF.out { x with locals:=x.locals.take nl' } _ Ap Al np nl' cp cl hX (HFB.out.set_ 2 _) HNP.out (by show nl'=(x.locals.take nl').length;rw [List.length_take];omega) (HOLD.out _ hX).1 ((HOLD.out _ hX).2.take (Nat.le_succ _)) (Nat.le_succ _) (by show (x.locals.take nl').length≤_;rw [List.length_take];omega) rfl⟩
 case rest=>
 obtain ⟨f,Bp,Bl,mp,ml,ep,el,hfn⟩:=hcut
 have hbx:=hfn.below
 have t0:=(HC.out.blk.below hbx HTB.out.2).cell 0;have t1:=(HC.out.blk.below hbx HTB.out.2).cell 1
 have f0:=hfn.blk.cell 0
 have f1:=hfn.blk.cell 1
 have f2:=hfn.blk.cell 2
 have f3:=hfn.blk.cell 3
 have hrx:=HRC.out.below hbx HRC.out.lt
 have r0:=hrx.cell 0;have r1:=hrx.cell 1;have rf0:=hrx.frozen 0;have rf1:=hrx.frozen 1
 have hro:=own_kept_any HRF.out hbx
 have hcx:∀j,j<4→∃u,wc.cell? ⟨gF,k*4+j,none⟩=some u:=fun j hj=>own_cell hro _ (by omega)
 have h4:=fun i=>hro.frozenAt i
 obtain ⟨u0_,e4⟩:=hcx 0 (by omega)
 obtain ⟨u1_,e5⟩:=hcx 1 (by omega)
 obtain ⟨u2_,e6⟩:=hcx 2 (by omega)
 obtain ⟨u3_,e7⟩:=hcx 3 (by omega)
 have e4':wc.cell? ⟨gF,k*4,none⟩=some u0_:=e4
 have g0:wc.frozen? ⟨gF,k*4,none⟩=false:=hro.frozenAt _
 have g1:wc.frozen? ⟨gF,k*4+1,none⟩=false:=hro.frozenAt _
 have g2:wc.frozen? ⟨gF,k*4+2,none⟩=false:=hro.frozenAt _
 have g3:wc.frozen? ⟨gF,k*4+3,none⟩=false:=hro.frozenAt _
 have hne1:gF≠tb:=HGF.out.2.2.1;have hne2:tb≠gF:=fun e=>hne1 e.symm;have hne3:gF≠rb:=HGF.out.2.2.2;have hne4:rb≠gF:=fun e=>hne3 e.symm
 have hne5:fb≠gF:=by have:=HFE.out;have:=HGF.out;omega
 have hne6:gF≠fb:=fun e=>hne5 e.symm
 have hne7:rb≠tb:=by have:=HPB.out;have:=HTB.out;omega
 have hne8:tb≠rb:=fun e=>hne7 e.symm
 have HFN:=Ω hfn;have HRX:=Ω hrx
 clear hfn hrx hbx hro hcx h4 e4
 go_wp2
 refine bodyPost_ret (v:=.agg #[.slice B1 n1 e1,.slice (some ⟨gF,0,none⟩) n2 e2]) (results_cell_row (p:=6) (ty:=27) (by kernel_rfl) _ _ rb 27 _ (0,0) _ rfl (((((((HRX.out.far (p:=⟨gF,k*4,none⟩) hne4 _).far (p:=⟨gF,k*4+1,none⟩) hne4 _).far (p:=⟨gF,k*4+2,none⟩) hne4 _).far (p:=⟨gF,k*4+3,none⟩) hne4 _).set_ 0 _).set_ 1 _)) Tryz.underlying27 rfl (by kernel_rfl)) rfl ?_
 exact bent_done HC.out HB.out HN1.out HN2.out HKL.out (by have h:=HFN.out;rw [HX.out] at h;exact h) (by have:=HPB.out;omega) (by have:=HPB.out;omega) rfl _ rfl
end
end Go.Proofs.YtmignlclfbaifaaGreat
