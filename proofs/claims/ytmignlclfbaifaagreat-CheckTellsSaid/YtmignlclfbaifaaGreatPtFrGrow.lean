/- The generator's programs: a row of one's own that grows, whose value lies in a box; blocks of one's own. Plain laws, no walk. -/
import Derived.Test.YtmignlclfbaifaaGreatPtFrA
import Derived.Test.YtmignlclfbaifaaGreatPtInv
namespace Go.Proofs.YtmignlclfbaifaaGreat
open Go.RowKit
structure Grow2 (w X:World) (sb g:Nat):Prop where
 os:X.os=w.os
 tape:X.tape=w.tape
 output:X.output=w.output
 size:w.heap.size≤X.heap.size
 block:∀k,k<w.heap.size→k≠sb→k≠g→X.heap[k]?=w.heap[k]?
section
variable {w X Y:World} {sb g:Nat}
theorem Grow2.refl (w:World) (sb g:Nat):Grow2 w w sb g:=⟨rfl,rfl,rfl,Nat.le_refl _,fun _ _ _ _=>rfl⟩
theorem Grow2.grown (h:Grow2 w X sb g) (hg:X.grownBy Y (some sb)):Grow2 w Y sb g:=
 ⟨hg.os.trans h.os,hg.tape.trans h.tape,hg.output.trans h.output,Nat.le_trans h.size hg.size,fun k hk h1 h2=>(hg.block k (ltle hk h.size) (fun e=>h1 (sj e))).trans (h.block k hk h1 h2)⟩
theorem Grow2.own (h:Grow2 w X sb g) {r:Option Nat} (hg:X.grownBy Y r) (hr:∀k,r=some k→w.heap.size≤k):Grow2 w Y sb g:=
 ⟨hg.os.trans h.os,hg.tape.trans h.tape,hg.output.trans h.output,Nat.le_trans h.size hg.size,fun k hk h1 h2=>(hg.block k (ltle hk h.size) (fun e=>by have:=hr k e.symm;omega)).trans (h.block k hk h1 h2)⟩
theorem Grow2.set (h:Grow2 w X sb g) (i:Nat) (u:Value):Grow2 w (X.setCell ⟨g,i,none⟩ u) sb g:=
 ⟨h.os,h.tape,h.output,by simpa [World.setCell] using h.size,fun k hk h1 h2=>(bhs X ⟨g,i,none⟩ u k h2).trans (h.block k hk h1 h2)⟩
theorem Grow2.other (h:Grow2 w X sb g) {b:Nat} {T:TypeId} {cs:Array Value} (hb:Blk w b T cs) (h1:b≠sb) (h2:b≠g):Blk X b T cs:=hb.keep (h.block b hb.lt h1 h2)
theorem Grow2.slr (h:Grow2 w X sb g) {α:Type} {sz:Nat} {R:World→(Nat→Prop)→List Value→α→Prop} {ok:Nat→Prop} {v:Value} {l:List α} (hm:MonoR R) (hs:SlR w ok sz (R w ok) v l) (hok:∀b,ok b→b<w.heap.size∧b≠sb∧b≠g):SlR X ok sz (R X ok) v l:=
 hs.imp (fun _ h=>h) (fun b hb=>h.block b (hok b hb).1 (hok b hb).2.1 (hok b hb).2.2) fun _ _ _ r=>hm _ _ _ _ _ _ r (fun _ h=>h) fun b hb=>h.block b (hok b hb).1 (hok b hb).2.1 (hok b hb).2.2
end
structure BoxG {α:Type} (ET:TypeId) (sz:Nat) (R:World→(Nat→Prop)→List Value→α→Prop) (w:World) (sb:Nat) (X:World) (g:Nat) (T:TypeId) (cs:Array Value) (P:α→Prop) (v:Value) (l:List α):Prop where
 gr:Grow2 w X sb g
 src:SrcAt X sb
 blk:Blk X g T cs
 gl:g<w.heap.size
 sbl:sb<w.heap.size
 ne:sb<g
 own:∃css,OwnL X w.heap.size ET sz R v l css
 made:∀x∈l,P x
section
variable {α:Type} {ET:TypeId} {sz:Nat} {R:World→(Nat→Prop)→List Value→α→Prop} {w X Y X1 X2 X3:World} {sb g:Nat} {T:TypeId} {cs:Array Value} {P:α→Prop} {v:Value} {l:List α}
theorem BoxG.step (hm:MonoR R) (h:BoxG ET sz R w sb X g T cs P v l) (hg:X.grownBy Y (some sb)) (hs:SrcAt Y sb):BoxG ET sz R w sb Y g T cs P v l:=by
 have h1:=h.sbl
 have h2:=h.ne
 obtain ⟨css,hc⟩:=h.own
 exact ⟨h.gr.grown hg,hs,h.blk.grown hg (fun e=>by have:=sj e;omega),h.gl,h1,h2,⟨css,hc.keep hm (fun b hb=>hg.block b hb.2 (fun e=>by have h4:=sj e;have h5:=hb.1;omega)) hg.size⟩,h.made⟩
theorem BoxG.below (hm:MonoR R) (h:BoxG ET sz R w sb X g T cs P v l) (hb:Below X.heap.size X Y):BoxG ET sz R w sb Y g T cs P v l:=h.step hm (grown_below' hb) (h.src.below hb)
theorem BoxG.app (hm:MonoR R) (h:BoxG ET sz R w sb X g T cs P v l) (hg:X.grownBy X1 (some sb)) (hs:SrcAt X1 sb) (h12:Below X1.heap.size X1 X2) {n:Nat} (hn:n=l.length) {css:List (List Value)} (how:OwnL X w.heap.size ET sz R v l css)
  {x:α} {cx:List Value} {ok:Nat→Prop} (hok:∀b,ok b→w.heap.size≤b∧b<X1.heap.size∧v.ownBlock≠some b) (hx:R X1 ok cx x) (hcx:cx.length=sz) (hP:P x) {gg cap:Nat} (hrow:X3.ownsRow w.heap.size ET sz (.slice (some ⟨gg,0,none⟩) (n+1) cap) (n+1) (css.flatten++cx))
  (hgr:X2.grownBy X3 v.ownBlock) (hat:v.ownBlock=some gg∨gg=X2.heap.size):BoxG ET sz R w sb X3 g T cs P (.slice (some ⟨gg,0,none⟩) (n+1) cap) (l++[x]):=by
 subst hn
 have h2:BoxG ET sz R w sb X2 g T cs P v l:=(h.step hm hg hs).below hm h12
 have hvb:∀k,v.ownBlock=some k→w.heap.size≤k∧k<X.heap.size:=how.lt
 have hgl:=h.gl
 have hsl:=h.sbl
 have h0:=h.gr.size
 have hok2:∀b,ok b→w.heap.size≤b∧b<X2.heap.size∧v.ownBlock≠some b:=fun b hb=>⟨(hok b hb).1,ltle (hok b hb).2.1 h12.size,(hok b hb).2.2⟩
 have hx2:R X2 (okOwn w.heap.size X2 v) cx x:=hm _ _ _ _ _ _ hx hok2 (fun b hb=>h12.block b (hok b hb).2.1)
 have kp:Keeps (fun b=>w.heap.size≤b∧b<X.heap.size) X X2:=fun b hb=>(h12.block b (ltle hb.2 hg.size)).trans (hg.block b hb.2 (fun e=>by have h4:=sj e;have h5:=hb.1;omega))
 refine ⟨h2.gr.own hgr (fun k hk=>(hvb k hk).1),?_,h2.blk.grown hgr (fun e=>by have:=hvb g e;omega),hgl,hsl,h.ne,⟨_,OwnL.snoc hm how kp (Nat.le_trans hg.size h12.size) hcx hrow hgr (hat.imp id (fun e=>Nat.le_of_eq e.symm)) hx2⟩,?_⟩
 ·exact h2.src.grown hgr (fun k e=>by have:=hvb k e;omega)
 ·intro y hy
  rcases List.mem_append.1 hy with hy|hy
  ·exact h.made y hy
  ·obtain rfl:=List.mem_singleton.1 hy;exact hP
theorem BoxG.row2 (hm:MonoR R) (h:BoxG ET sz R w sb X g T cs P v l) (hg:X.grownBy X1 (some sb)) (h12:Below X1.heap.size X1 X2) {n:Nat} (hn:n=l.length) {css:List (List Value)} (how:OwnL X w.heap.size ET sz R v l css):X2.ownsRow w.heap.size ET sz v n css.flatten:=by
 subst hn
 have hsl:=h.sbl
 exact (how.keep hm (fun b hb=>(h12.block b (ltle hb.2 hg.size)).trans (hg.block b hb.2 (fun e=>by have h4:=sj e;have h5:=hb.1;omega))) (Nat.le_trans hg.size h12.size)).row
theorem BoxG.set (hm:MonoR R) (h:BoxG ET sz R w sb X g T cs P v l) (i:Nat) (u:Value):BoxG ET sz R w sb (X.setCell ⟨g,i,none⟩ u) g T (cs.setIfInBounds i u) P v l:=by
 have h2:=h.gl
 have h3:=h.ne
 obtain ⟨css,hc⟩:=h.own
 exact ⟨h.gr.set i u,h.src.keep (fun b hb=>bhs X ⟨g,i,none⟩ u b (by show b≠g;omega)),h.blk.set_ i u,h2,h.sbl,h3,⟨css,hc.keep hm (fun b hb=>bhs X ⟨g,i,none⟩ u b (by show b≠g;have:=hb.1;omega)) (by simp [World.setCell])⟩,h.made⟩
theorem BoxG.begin_ (hgl:g<w.heap.size) (hsl:sb<w.heap.size) (hne:sb<g) (hs:SrcAt w sb) (hb:Blk w g T cs):BoxG ET sz R w sb w g T cs P (.slice none 0 0) []:=
 ⟨Grow2.refl _ _ _,hs,hb,hgl,hsl,hne,⟨[],OwnL.nil_ _ _ _ _ _⟩,fun _ h=>by cases h⟩
theorem BoxG.list (hm:MonoR R) (h:BoxG ET sz R w sb X g T cs P v l):SlR X (fun b=>w.heap.size≤b∧b<X.heap.size) sz (R X (fun b=>w.heap.size≤b∧b<X.heap.size)) v l:=by
 obtain ⟨css,hc⟩:=h.own
 exact hc.slr hm
end
def okX (lo:Nat) (X:World) (v:Value) (b:Nat):Prop:=lo≤b∧b<X.heap.size∧v.ownBlock≠some b
structure BoxX {α:Type} (ET:TypeId) (sz:Nat) (R:World→(Nat→Prop)→List Value→α→Prop) (lo:Nat) (w:World) (sb:Nat) (X:World) (g:Nat) (T:TypeId) (cs:Array Value) (P:α→Prop) (v:Value) (l:List α):Prop where
 gr:Grow2 w X sb g
 src:SrcAt X sb
 blk:Blk X g T cs
 gl:g<w.heap.size
 sbl:sb<w.heap.size
 ne:sb<g
 gt:g<lo
 low:lo≤w.heap.size
 own:∃css,OwnX X (okX lo X v) w.heap.size ET sz R v l css
 made:∀x∈l,P x
section
variable {α:Type} {ET:TypeId} {sz:Nat} {R:World→(Nat→Prop)→List Value→α→Prop} {w X Y X1 X2 X3:World} {lo sb g:Nat} {T:TypeId} {cs:Array Value} {P:α→Prop} {v:Value} {l:List α}
theorem own_step (hm:MonoR R) {css:List (List Value)} (hsl:sb<w.heap.size) (hlo:sb<lo) (hc:OwnX X (okX lo X v) w.heap.size ET sz R v l css) (hg:X.grownBy Y (some sb)):OwnX Y (okX lo Y v) w.heap.size ET sz R v l css:=
 hc.grown hm hg (fun k e h=>by have h1:=sj h;have h2:=(hc.row.lt k e).1;omega) (fun b hb=>hb.2.1) (fun b hb h=>by have:=sj h;have:=hb.1;omega) (fun b hb=>⟨hb.1,ltle hb.2.1 hg.size,hb.2.2⟩) (fun k e hk=>hk.2.2 e)
theorem BoxX.step (hm:MonoR R) (h:BoxX ET sz R lo w sb X g T cs P v l) (hg:X.grownBy Y (some sb)) (hs:SrcAt Y sb):BoxX ET sz R lo w sb Y g T cs P v l:=by
 have h2:=h.ne
 obtain ⟨css,hc⟩:=h.own
 exact ⟨h.gr.grown hg,hs,h.blk.grown hg (fun e=>by have:=sj e;omega),h.gl,h.sbl,h2,h.gt,h.low,⟨css,own_step hm h.sbl (Nat.lt_trans h.ne h.gt) hc hg⟩,h.made⟩
theorem BoxX.app (hm:MonoR R) (h:BoxX ET sz R lo w sb X g T cs P v l) (hg:X.grownBy X1 (some sb)) (hs:SrcAt X1 sb) (h12:Below X1.heap.size X1 X2) {n:Nat} (hn:n=l.length) {css:List (List Value)} (how:OwnX X (okX lo X v) w.heap.size ET sz R v l css)
  {x:α} {cx:List Value} {ok:Nat→Prop} (hok:∀b,ok b→okX lo X1 v b) (hx:R X1 ok cx x) (hcx:cx.length=sz) (hP:P x) {gg cap:Nat} (hrow:X3.ownsRow w.heap.size ET sz (.slice (some ⟨gg,0,none⟩) (n+1) cap) (n+1) (css.flatten++cx))
  (hgr:X2.grownBy X3 v.ownBlock) (hat:v.ownBlock=some gg∨gg=X2.heap.size):BoxX ET sz R lo w sb X3 g T cs P (.slice (some ⟨gg,0,none⟩) (n+1) cap) (l++[x]):=by
 subst hn
 have hvb:∀k,v.ownBlock=some k→w.heap.size≤k∧k<X.heap.size:=how.row.lt
 have hgl:=h.gl
 have hsl:=h.sbl
 have h0:=h.gr.size
 have hlo:=Nat.lt_trans h.ne h.gt
 have o1:=own_step hm hsl hlo how hg
 have g12:X1.grownBy X2 (some sb):=grown_below' h12
 have o2:=own_step hm hsl hlo o1 g12
 have b2:Blk X2 g T cs:=(h.blk.grown hg (fun e=>by have:=sj e;have:=h.ne;omega)).grown g12 (fun e=>by have:=sj e;have:=h.ne;omega)
 have up:∀b,okX lo X2 v b→okX lo X3 (.slice (some ⟨gg,0,none⟩) (l.length+1) cap) b:=fun b hb=>⟨hb.1,ltle hb.2.1 hgr.size,fun e=>by
  have e':gg=b:=by simpa [Value.ownBlock] using e
  rcases hat with hat|hat
  ·exact hb.2.2 (by rw [hat,e'])
  ·have:=hb.2.1;omega⟩
 have kp:Keeps (okX lo X2 v) X2 X3:=fun b hb=>hgr.block b hb.2.1 (fun e=>hb.2.2 e.symm)
 have hx2:R X2 (okX lo X2 v) cx x:=hm _ _ _ _ _ _ hx (fun b hb=>⟨(hok b hb).1,ltle (hok b hb).2.1 h12.size,(hok b hb).2.2⟩) (fun b hb=>h12.block b (hok b hb).2.1)
 have hx3:=hm _ _ _ _ _ _ hx2 up kp
 refine ⟨((h.gr.grown hg).grown g12).own hgr (fun k hk=>(hvb k hk).1),?_,b2.grown hgr (fun e=>by have:=hvb g e;omega),hgl,hsl,h.ne,h.gt,h.low,⟨_,o2.snoc hm hcx hrow kp up (fun k e hk=>hk.2.2 e) hx3⟩,?_⟩
 ·exact (hs.below h12).grown hgr (fun k e=>by have:=hvb k e;omega)
 ·intro y hy
  rcases List.mem_append.1 hy with hy|hy
  ·exact h.made y hy
  ·obtain rfl:=List.mem_singleton.1 hy;exact hP
theorem BoxX.row2 (hm:MonoR R) (h:BoxX ET sz R lo w sb X g T cs P v l) (hg:X.grownBy X1 (some sb)) (h12:Below X1.heap.size X1 X2) {n:Nat} (hn:n=l.length) {css:List (List Value)} (how:OwnX X (okX lo X v) w.heap.size ET sz R v l css):X2.ownsRow w.heap.size ET sz v n css.flatten:=by
 subst hn
 exact (own_step hm h.sbl (Nat.lt_trans h.ne h.gt) (own_step hm h.sbl (Nat.lt_trans h.ne h.gt) how hg) (grown_below' h12)).row
theorem BoxX.set (hm:MonoR R) (h:BoxX ET sz R lo w sb X g T cs P v l) (i:Nat) (u:Value):BoxX ET sz R lo w sb (X.setCell ⟨g,i,none⟩ u) g T (cs.setIfInBounds i u) P v l:=by
 have h2:=h.gl
 have h3:=h.ne
 have h4:=h.gt
 obtain ⟨css,hc⟩:=h.own
 have hg:X.grownBy (X.setCell ⟨g,i,none⟩ u) (some g):=⟨rfl,rfl,rfl,by simp [World.setCell],fun k _ hne=>bhs X ⟨g,i,none⟩ u k (fun e=>hne (by rw [show k=g from e]))⟩
 refine ⟨h.gr.set i u,h.src.keep (fun b hb=>bhs X ⟨g,i,none⟩ u b (by show b≠g;omega)),h.blk.set_ i u,h2,h.sbl,h3,h.gt,h.low,⟨css,?_⟩,h.made⟩
 exact hc.grown hm hg (fun k e h=>by have h1:=sj h;have h2:=(hc.row.lt k e).1;omega) (fun b hb=>hb.2.1) (fun b hb h=>by have:=sj h;have:=hb.1;have:=h4;omega) (fun b hb=>⟨hb.1,by simpa [World.setCell] using hb.2.1,hb.2.2⟩) (fun k e hk=>hk.2.2 e)
theorem BoxX.begin_ (hgl:g<w.heap.size) (hsl:sb<w.heap.size) (hne:sb<g) (hgt:g<lo) (hlow:lo≤w.heap.size) (hs:SrcAt w sb) (hb:Blk w g T cs):BoxX ET sz R lo w sb w g T cs P (.slice none 0 0) []:=
 ⟨Grow2.refl _ _ _,hs,hb,hgl,hsl,hne,hgt,hlow,⟨[],OwnX.nil_ _ _ _ _ _ _⟩,fun _ h=>by cases h⟩
end
def RArrM:World→(Nat→Prop)→List Value→ByteArray × Int→Prop:=fun _ _=>RArr
theorem mono_arr:MonoR RArrM:=fun _ _ _ _ _ _ h _ _=>h
def RHead:World→(Nat→Prop)→List Value→ByteArray × List ByteArray→Prop:=fun Y ok cs x=>
 ∃(A:Option Addr) (c:Nat),cs=[.string x.1,.slice A x.2.length c,.slice none 0 0,.slice none 0 0]∧SlR Y ok 1 RStr (.slice A x.2.length c) x.2
theorem mono_head:MonoR RHead:=fun _ _ _ _ _ _ h a b=>by
 obtain ⟨A,c,e,hs⟩:=h
 exact ⟨A,c,e,hs.imp a b fun _ _ _ r=>r⟩
def RFuncM (d:Nat):World→(Nat→Prop)→List Value→LFunc→Prop:=fun Y ok=>RFunc d Y ok
theorem mono_func (d:Nat):MonoR (RFuncM d):=fun _ _ _ _ _ _ h a b=>h.imp a b
theorem info_arr:(Tryz.prog.info? 53).map (fun i=>(i.zero,i.size,i.bytes))=some (some (.agg #[.string ⟨#[]⟩,.int .i64 0]),2,24):=by kernel_rfl
theorem info_func:(Tryz.prog.info? 49).map (fun i=>(i.zero,i.size,i.bytes))=some (some (.agg #[.string ⟨#[]⟩,.slice none 0 0,.slice none 0 0,.slice none 0 0]),4,88):=by kernel_rfl
end Go.Proofs.YtmignlclfbaifaaGreat
