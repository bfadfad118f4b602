/- What the walks lean on, whatever the program: rows of the call's own, slices that read as lists, 'append' into a row that may be empty, worlds. Printed by wip/prune.py (specs/gen.spec) out of the texts of the units' seats, and merged by hand. -/
import Derived.Test.YtmignlclfbaifaaGreatPtMem
import Derived.Test.YtmignlclfbaifaaGreatRows
import Derived.WalkKit
import Derived.WalkSpells
import Derived.WalkLawsBesides
import Derived.Lib.Hide
import Derived.Deep.RegionHeld3
import Derived.Deep.RegionLaw
import Derived.Deep.AppendLies
import Derived.Deep.DeepCutAuto
import Derived.Deep.CutBlock
import Derived.Deep.Upon
import Derived.Lib.SlFresh
import Derived.Laws.EntriesVeiled
import Derived.StillTailTactics
import Derived.Deep.QuietTactic
import Derived.BigQuiet
import Derived.Deep.RegionHeld
import Derived.Laws.StructEq
import Derived.Laws.RangeString
import Derived.Laws.RangeAny
import Derived.Shelf.SlLaysE
import Derived.Shelf.SlLaysM
import Derived.Shelf.SlLaysX
import Derived.Shelf.SlLaysZI
import Derived.Shelf.SlLaysE0
import Derived.Shelf.Lays
import Derived.Shelf.LaysM
import Derived.Shelf.SortM.Plain
import Derived.Shelf.SortM.SortNone
import Derived.Sort.OwnSorted
import Derived.Shelf.SlicesE.Clone
import Derived.Shelf.SlicesE.Compact
import Derived.ProofKit
import Derived.OpenShut
import Derived.Deep.Slices
import Derived.Carry
import Derived.ChangeOld
import Derived.ChangeSlices
import Derived.SizedLaws
import Derived.Deep.AppendSrc
import Derived.Laws.ResultCell
import Derived.Lib.IfaceEq
import Derived.Deep.OwnRows
import Derived.Maps.Own
import Derived.Maps.OwnSet
import Derived.Maps.Ext
import Derived.Lib.SlKeysI
import Derived.Lib.SlMapMerge
import Derived.Maps.RangeWalk
import Derived.Laws.IdiomRangeMap
import Derived.Shelf.SlIterI.Nil
import Derived.RangeFuncNested
import Derived.RangeFuncBound
import Derived.RangeFuncCalls
import Derived.RangeFuncLeaves
import Derived.RangeFuncBox
import Derived.Shelf.Abstract
import Derived.Shelf.RegionOpen
import Derived.OwnWalkIn
import Derived.TacticsInMore
import Derived.LoopNIn
import Derived.LoopIn
import Derived.Sort.CutIn
import Derived.Stop.RegionWithIn
namespace Go.Proofs.YtmignlclfbaifaaGreat
open Go.RowKit
def pk (a n:Int):Int:=(if a<0 then -(a+1) else a)%n
theorem pk_lo (a n:Int) (hn:0<n):0≤pk a n:=Int.emod_nonneg _ (by omega)
theorem pk_hi (a n:Int) (hn:0<n):pk a n<n:=Int.emod_lt_of_pos _ hn
def I64 (a:Int):Prop:=-9223372036854775808≤a∧a≤9223372036854775807
theorem i64_of_wf {a:Int} (h:(Lit.int .i64 a).wf=true):I64 a:=by
 simp [Lit.wf,IntKind.min,IntKind.max,IntKind.signed,IntKind.bits] at h
 unfold I64;omega
end Go.Proofs.YtmignlclfbaifaaGreat
namespace Go.Proofs.YtmignlclfbaifaaGreat
open Go.RowKit
theorem wp_world {P:Program} {c:Code} {Q:Exit→Act→World→Prop} {a:Act} {w:World} (h:∀W,w=W→c.wp P Q a W):c.wp P Q a w:=h w rfl
theorem below3 (w:World) (o p q:Obj):Below w.heap.size w (((w.alloc o).alloc p).alloc q):=(((Below.refl _ _).alloc (Nat.le_refl _) _).alloc (by simp) _).alloc (by simp;omega) _
theorem below4 (w:World) (o p q r:Obj):Below w.heap.size w ((((w.alloc o).alloc p).alloc q).alloc r):=(below3 w o p q).alloc (by simp;omega) _
end Go.Proofs.YtmignlclfbaifaaGreat
namespace Go.Proofs.YtmignlclfbaifaaGreat
open Go.RowKit
theorem set_flatten {sz:Nat} {c:Value} {i:Nat}:∀{css:List (List Value)},(∀cs∈css,cs.length=sz)→∀{j:Nat} (hj:j<css.length),i<sz→css.flatten.set (j*sz+i) c=(css.set j (css[j].set i c)).flatten
 |[],_,j,hj,_=>by simp at hj
 |a :: r,hall,0,_,hi=>by
  have ha:a.length=sz:=hall a (by simp)
  simp only [List.flatten_cons,List.set_cons_zero,List.getElem_cons_zero,Nat.zero_mul,Nat.zero_add]
  rw [List.set_append_left _ _ (by omega)]
 |a :: r,hall,j+1,hj,hi=>by
  have ha:a.length=sz:=hall a (by simp)
  have e:(j+1)*sz+i=a.length+(j*sz+i):=by rw [ha,Nat.succ_mul];omega
  simp only [List.flatten_cons,List.set_cons_succ,List.getElem_cons_succ]
  rw [e,List.set_append_right _ _ (by omega),Nat.add_sub_cancel_left,set_flatten (fun cs h=>hall cs (by simp [h])) (by simpa using hj) hi]
theorem OwnL.put1 {α:Type} {w:World} {base:Nat} {T:TypeId} {sz n g cap:Nat} {css:List (List Value)} (hrow:w.ownsRow base T sz (.slice (some ⟨g,0,none⟩) n cap) n css.flatten)
  (hall:∀cs∈css,cs.length=sz) {j i:Nat} (hj:j<css.length) (hi:i<sz) (c:Value) (_:α) :
  (w.setCell ⟨g,j*sz+i,none⟩ c).ownsRow base T sz (.slice (some ⟨g,0,none⟩) n cap) n (css.set j (css[j].set i c)).flatten:=by
 have h:=(hrow.stored (j*sz+i) c).1
 rw [set_flatten hall hj hi] at h
 exact h
end Go.Proofs.YtmignlclfbaifaaGreat
namespace Go.Proofs.YtmignlclfbaifaaGreat
open Go.RowKit
def AllR {α:Type} (sz:Nat) (R:List Value→α→Prop):List (List Value)→List α→Prop
 |[],[]=>True
 |c :: cs,x :: xs=>(c.length=sz∧R c x)∧AllR sz R cs xs
 |_,_=>False
theorem AllR.at_ {α:Type} {sz:Nat} {R:List Value→α→Prop}:∀{css:List (List Value)} {l:List α},AllR sz R css l→css.length=l.length∧∀(i:Nat) (h1:i<css.length) (h2:i<l.length),css[i].length=sz∧R css[i] l[i]
 |[],[],_=>⟨rfl,fun i h=>absurd h (by simp)⟩
 |c :: cs,x :: xs,h=>by
  obtain ⟨h1,h2⟩:=AllR.at_ h.2
  refine ⟨by simp [h1],fun i hi hi2=>?_⟩
  cases i with
  |zero=>exact h.1
  |succ i=>exact h2 i (by simpa using hi) (by simpa using hi2)
 |[],_ :: _,h=>h.elim
 |_ :: _,[],h=>h.elim
theorem flat_at {sz:Nat}:∀(css:List (List Value)),(∀cs∈css,cs.length=sz)→∀(i j:Nat) (hi:i<css.length) (hj:j<(css[i]).length),css.flatten[i*sz+j]?=some (css[i])[j]:=by
 intro css
 induction css with
 |nil=>intro _ i j hi;simp at hi
 |cons c r ih=>
  intro hall i j hi hj
  have hc:c.length=sz:=hall c (by simp)
  rw [List.flatten_cons]
  match i,hi,hj with
  |0,_,hj=>
   have hj':j<c.length:=hj
   rw [Nat.zero_mul,Nat.zero_add,List.getElem?_append_left hj']
   exact List.getElem?_eq_getElem hj'
  |i+1,hi,hj=>
   have e1:(i+1)*sz+j=c.length+(i*sz+j):=by rw [hc,Nat.succ_mul];omega
   rw [e1,List.getElem?_append_right (by omega),Nat.add_sub_cancel_left]
   exact ih (fun cs hcs=>hall cs (by simp [hcs])) i j (by simpa using hi) hj
theorem SlR.lit {α:Type} {W:World} {ok:Nat→Prop} {g:Nat} {t:TypeId} {cs:Array Value} {sz:Nat} {R:List Value→α→Prop} {l:List α} (css:List (List Value)) {n:Nat} (h:Blk W g t cs) (hcs:cs=css.flatten.toArray) (ha:AllR sz R css l) (hn:n=l.length) (hok:ok g) (hl:n≤1000) :
  SlR W ok sz R (.slice (some ⟨g,0,none⟩) n n) l:=by
 obtain ⟨h1,h2⟩:=ha.at_
 subst hn hcs
 refine ⟨_,_,rfl,Nat.le_refl _,by unfold maxLen;omega,.inr ⟨g,0,rfl,hok,fun i hi=>?_⟩⟩
 have hi':i<css.length:=by omega
 obtain ⟨h3,h4⟩:=h2 i hi' hi
 refine ⟨css[i],h3,h4,fun j hj=>?_⟩
 have hall:∀cs∈css,cs.length=sz:=fun c hc=>by
  obtain ⟨q,hq,rfl⟩:=List.getElem_of_mem hc
  exact (h2 q hq (by omega)).1
 rw [Nat.zero_add,h.cell,List.getElem?_toArray]
 exact flat_at css hall i j hi' hj
end Go.Proofs.YtmignlclfbaifaaGreat
namespace Go.Proofs.YtmignlclfbaifaaGreat
open Go.RowKit
theorem flatten_get {sz:Nat}:∀(css:List (List Value)),(∀cs∈css,cs.length=sz)→∀(i j:Nat) (hi:i<css.length) (hj:j<(css[i]).length),css.flatten[i*sz+j]?=some (css[i])[j]
 |[],_,_,_,hi,_=>by simp at hi
 |c :: r,hall,0,j,_,hj=>by
  have hj':j<c.length:=hj
  rw [List.flatten_cons,Nat.zero_mul,Nat.zero_add,List.getElem?_append_left hj']
  exact List.getElem?_eq_getElem hj'
 |c :: r,hall,i+1,j,hi,hj=>by
  have hc:c.length=sz:=hall c (by simp)
  have e1:(i+1)*sz+j=c.length+(i*sz+j):=by rw [hc,Nat.succ_mul];omega
  rw [List.flatten_cons,e1,List.getElem?_append_right (by omega),Nat.add_sub_cancel_left]
  exact flatten_get r (fun cs hcs=>hall cs (by simp [hcs])) i j (by simpa using hi) hj
end Go.Proofs.YtmignlclfbaifaaGreat
namespace Go.Proofs.YtmignlclfbaifaaGreat
open Go.RowKit
theorem below1 (w:World) (a:Obj):Below w.heap.size w (w.alloc a):=(Below.refl _ _).alloc (Nat.le_refl _) _
theorem below2 (w:World) (a b:Obj):Below w.heap.size w ((w.alloc a).alloc b):=(below1 w a).alloc (by simp) _
end Go.Proofs.YtmignlclfbaifaaGreat
namespace Go.Proofs.YtmignlclfbaifaaGreat
open Go.RowKit
section
set_option maxHeartbeats 2000000
set_option maxRecDepth 100000
end
end Go.Proofs.YtmignlclfbaifaaGreat
namespace Go.Proofs.YtmignlclfbaifaaGreat
open Go.RowKit
end Go.Proofs.YtmignlclfbaifaaGreat
namespace Go.Proofs.YtmignlclfbaifaaGreat
open Go.RowKit
end Go.Proofs.YtmignlclfbaifaaGreat
namespace Go.Proofs.YtmignlclfbaifaaGreat
open Go.RowKit
end Go.Proofs.YtmignlclfbaifaaGreat
namespace Go.Proofs.YtmignlclfbaifaaGreat
open Go.RowKit
theorem beq_dec (a b:Int):(a == b)=decide (a=b):=by rw [Bool.eq_iff_iff];simp
section
set_option maxHeartbeats 2000000
end
end Go.Proofs.YtmignlclfbaifaaGreat
namespace Go.Proofs.YtmignlclfbaifaaGreat
open Go.RowKit
section
set_option maxHeartbeats 4000000
set_option maxRecDepth 100000
end
end Go.Proofs.YtmignlclfbaifaaGreat
namespace Go.Proofs.YtmignlclfbaifaaGreat
open Go.RowKit Go.Sort Go.Shelf
theorem grown_below' {w w':World} {row:Option Nat} (h:Below w.heap.size w w'):w.grownBy w' row:=⟨h.os,h.tape,h.output,h.size,fun k hk _=>h.block k hk⟩
section
set_option maxRecDepth 100000
set_option maxHeartbeats 4000000
end
end Go.Proofs.YtmignlclfbaifaaGreat
namespace Go.Proofs.YtmignlclfbaifaaGreat
open Go.ChangeShapes Go.WideShapes Go.ChangeAt Go.RowKit
section
variable {H:Type} {enc:TypeId × Value→H} {P:Program}
end
end Go.Proofs.YtmignlclfbaifaaGreat
namespace Go.Proofs.YtmignlclfbaifaaGreat
open Go.ChangeShapes Go.WideShapes Go.ChangeAt Go.RowKit
theorem list_of {β:Type} {n:Nat} {Q:Nat→β→Prop} (h:∀i,i<n→∃y,Q i y):∃l:List β,l.length=n∧∀(i:Nat) (hi:i<l.length),Q i l[i]:=by
 induction n with
 |zero=>exact ⟨[],rfl,fun i hi=>by simp at hi⟩
 |succ n ih=>
  obtain ⟨l,hl,hq⟩:=ih fun i hi=>h i (by omega)
  obtain ⟨y,hy⟩:=h n (by omega)
  refine ⟨l++[y],by simp [hl],fun i hi=>?_⟩
  by_cases hi':i<l.length
  ·rw [List.getElem_append_left hi'];exact hq i hi'
  ·have e:i=n:=by simp at hi;omega
   subst e
   rw [List.getElem_append_right (by omega)]
   simp only [hl,Nat.sub_self,List.getElem_singleton]
   exact hy
section
variable {H:Type} {enc:TypeId × Value→H} {P:Program} {w:World} {spare:Nat→Bool} {held:Bool}
end
section
variable {H:Type} {enc:TypeId × Value→H} {w:World} {spare:Nat→Bool} {held:Bool}
end
end Go.Proofs.YtmignlclfbaifaaGreat
namespace Go.Proofs.YtmignlclfbaifaaGreat
open Go.ChangeShapes Go.WideShapes Go.ChangeAt Go.RowKit
section
variable {H:Type} {enc:TypeId × Value→H} {w:World} {spare:Nat→Bool} {held:Bool}
end
end Go.Proofs.YtmignlclfbaifaaGreat
namespace Go.Proofs.YtmignlclfbaifaaGreat
open Go.RowKit
theorem cells_flatten {w:World} {b sz:Nat}:∀(css:List (List Value)) (off:Nat),(∀cs∈css,cs.length=sz)→(∀(i:Nat) (h:i<css.length),Cells w b (off+i*sz) css[i])→Cells w b off css.flatten
 |[],off,_,_=>fun j hj=>by simp at hj
 |c :: r,off,hall,h=>by
  have hc:c.length=sz:=hall c (by simp)
  have ih:=cells_flatten r (off+sz) (fun cs hcs=>hall cs (by simp [hcs])) (fun i hi=>by
   have:=h (i+1) (by simpa using hi)
   rw [show off+sz+i*sz=off+(i+1)*sz by rw [Nat.succ_mul];omega]
   exact this)
  have h0:=h 0 (by simp)
  rw [Nat.zero_mul,Nat.add_zero] at h0
  intro j hj
  rw [List.flatten_cons] at hj
  by_cases hjc:j<c.length
  ·have:=h0 j hjc
   simp only [List.flatten_cons]
   rw [List.getElem_append_left hjc]
   exact this
  ·have hj2:j-c.length<r.flatten.length:=by rw [List.length_append] at hj;omega
   have:=ih (j-c.length) hj2
   simp only [List.flatten_cons]
   rw [List.getElem_append_right (by omega)]
   rw [show off+sz+(j-c.length)=off+j by omega] at this
   exact this
theorem SlR.rows {α:Type} {w:World} {ok:Nat→Prop} {sz b off n c:Nat} {R:List Value→α→Prop} {l:List α} (h:SlR w ok sz R (.slice (some ⟨b,off,none⟩) n c) l) (hl:0<l.length) :
  ∃css:List (List Value),css.length=l.length∧(∀cs∈css,cs.length=sz)∧(∀(i:Nat) (h1:i<css.length) (h2:i<l.length),R css[i] l[i])∧Cells w b off css.flatten∧ok b:=by
 obtain ⟨b',off',c',hv,_,_,hb,hel⟩:=h.form hl
 obtain ⟨rfl,rfl⟩:b=b'∧off=off':=by injection hv with h1 _ _;injection h1 with h1;injection h1 with h1 h2;exact ⟨h1,h2⟩
 obtain ⟨css,hlen,hcs⟩:=list_of (n:=l.length) (Q:=fun i cs=>cs.length=sz∧(∀h:i<l.length,R cs l[i])∧Cells w b (off+i*sz) cs) (fun i hi=>by
  obtain ⟨cs,h1,h2,h3⟩:=hel i hi
  exact ⟨cs,h1,fun _=>h2,h3⟩)
 have hall:∀cs∈css,cs.length=sz:=fun cs hc=>by
  obtain ⟨i,hi,rfl⟩:=List.getElem_of_mem hc
  exact (hcs i hi).1
 exact ⟨css,hlen,hall,fun i h1 h2=>(hcs i h1).2.1 h2,cells_flatten css off hall (fun i hi=>(hcs i hi).2.2),hb⟩
theorem Cells.news {w:World} {b off:Nat} {xs:List Value} (h:Cells w b off xs):∀j u,xs[j]?=some u→w.cell? ((⟨b,off,none⟩:Addr).add j)=some u:=fun j u hu=>by
 rw [Addr.add_lit];exact h.at_ hu
theorem flatten_ones {css:List (List Value)} (h:∀cs∈css,∀u∈cs,u.oneCell'=true):∀u∈css.flatten,u.oneCell'=true:=fun u hu=>by
 obtain ⟨cs,hc,hu⟩:=List.mem_flatten.1 hu
 exact h cs hc u hu
theorem flatten_len {css:List (List Value)} {sz:Nat} (h:∀cs∈css,cs.length=sz):css.flatten.length=css.length*sz:=by
 induction css with
 |nil=>simp
 |cons c r ih=>
  rw [List.flatten_cons,List.length_append,h c (by simp),ih fun cs hcs=>h cs (by simp [hcs]),List.length_cons,Nat.succ_mul]
  omega
theorem own_made {w:World} {base g n sz:Nat} {T:TypeId} {cs:Array Value} (h:Blk w g T cs) (hb:base≤g) (hn:n≤maxLen) (hs:cs.size=n*sz):w.ownsRow base T sz (.slice (some ⟨g,0,none⟩) n n) n cs.toList:=
 ⟨by simpa using hs,.inr ⟨g,n,cs,rfl,hb,h,Nat.le_refl _,hn,hs,by rw [←hs];exact List.take_length⟩⟩
section
variable {P:Program}
theorem step_append_row {ops:Array Oper} {o:Oper} {a:Act} {K:Act→World→Prop} {Q:Exit→Act→World→Prop} {E:Prop} (w:World) (hgd:o.guard=none) (s x:Operand) (t:TypeId)
  (ho:o.op=.call { callee:=.builtin .append,args:=#[s,x],argTypes:=#[t,t] })
  (base:Nat) (e:TypeId) (i:TypeInfo) (z:Value) (size bytes:Nat) (ht:P.underlying t=some (.slice e)) (hi:P.info? e=some i) (hz:i.zero=some z)
  (hsize:i.size=size) (hby:i.bytes=bytes) (hzs:z.cells.size=size) (hsz:0<size)
  (v:Value) (n:Nat) (xs:List Value) (hs:a.eval s=v) (hown:w.ownsRow base e size v n xs) (hn:0<n)
  (A:Option Addr) (m c:Nat) (news:List Value) (hx:a.eval x=.slice A m c) (hl:news.length=m*size) (hnews:m=0∨∃ad,A=some ad∧∀j u,news[j]?=some u→w.cell? (ad.add j)=some u) (h1:∀u∈news,u.oneCell'=true)
  (h63:n+m≤maxLen) (hbytes:(n+m)*bytes≤140737488355328) (hbase:base≤w.heap.size) (H:Nat) (hH:w.heap.size=H)
  (h:∀g cap w',w'.ownsRow base e size (.slice (some ⟨g,0,none⟩) (n+m) cap) (n+m) (xs++news)→w.grownBy w' v.ownBlock→(v.ownBlock=some g∨g=H)→g<w'.heap.size→K (a.put o.dst (.slice (some ⟨g,0,none⟩) (n+m) cap)) w') :
  if Region.wanted o (yielded ops a.tmps)=true then Oper.wp P o a w K Q else E:=by
 have hw:Region.wanted o (yielded ops a.tmps)=true:=by simp [Region.wanted,hgd]
 rw [if_pos hw]
 by_cases h0:m=0
 ·subst h0
  have hnil:news=[]:=List.eq_nil_of_length_eq_zero (by rw [hl];simp)
  subst hnil
  obtain ⟨g,cap,cur,hv,hb,hg,hcap,hmax,hcs,htake⟩:∃g cap cur,v=.slice (some ⟨g,0,none⟩) n cap∧base≤g∧w.heap[g]?=some (.cells cur e (0,0))∧n≤cap∧cap≤maxLen∧cur.size=cap*size∧cur.toList.take (n*size)=xs:=by
   rcases hown.2 with ⟨_,h0⟩|h0
   ·omega
   ·exact h0
  subst hv
  have hgl:g<w.heap.size:=(Array.getElem?_eq_some_iff.1 hg).1
  refine Go.Lib.wp_append_run_sl w s x t ho _ _ hs hx (run_append_nothing (P:=P) w t t o.type e i ht hi (some ⟨g,0,none⟩) n cap hcap (.slice A 0 c) ?_) ?_
  ·cases A with
   |none=>exact Src.ofNil (size:=i.size) w ht c
   |some ad=>exact Src.ofSlice (size:=i.size) w ht ad 0 c [] (by simp) (by simp) (by simp)
  ·exact h g cap w (by simpa using hown) ⟨rfl,rfl,rfl,Nat.le_refl _,fun _ _ _=>rfl⟩ (.inl rfl) hgl
 ·obtain ⟨ad,rfl,hnw⟩:∃ad,A=some ad∧∀j u,news[j]?=some u→w.cell? (ad.add j)=some u:=by
   rcases hnews with h2|h2
   ·exact absurd h2 h0
   ·exact h2
  exact wp_append_lies w s x t ho base e i z size bytes ht hi hz hsize hby hzs hsz v n xs hs hown ad m c news hx hl hnw h1 (by omega) h63 hbytes hbase H hH h
end
end Go.Proofs.YtmignlclfbaifaaGreat
namespace Go.Proofs.YtmignlclfbaifaaGreat
open Go.RowKit
theorem SlR.rows_any {α:Type} {w:World} {ok:Nat→Prop} {sz n c:Nat} {A:Option Addr} {R:List Value→α→Prop} {l:List α} (h:SlR w ok sz R (.slice A n c) l) :
  ∃css:List (List Value),css.length=l.length∧(∀cs∈css,cs.length=sz)∧(∀(i:Nat) (h1:i<css.length) (h2:i<l.length),R css[i] l[i])∧(l.length=0∨∃b o,A=some ⟨b,o,none⟩∧ok b∧Cells w b o css.flatten):=by
 by_cases h0:0<l.length
 ·obtain ⟨b,o,c',hv,_,_,_,_⟩:=h.form h0
  have hA:A=some ⟨b,o,none⟩:=by injection hv
  subst hA
  obtain ⟨css,q1,q2,q3,q4,q5⟩:=h.rows h0
  exact ⟨css,q1,q2,q3,.inr ⟨b,o,rfl,q5,q4⟩⟩
 ·have e:l=[]:=List.eq_nil_of_length_eq_zero (by omega)
  subst e
  exact ⟨[],rfl,fun _ h=>by simp at h,fun i h=>by simp at h,.inl rfl⟩
theorem step_append_any {P:Program} {ops:Array Oper} {o:Oper} {a:Act} {K:Act→World→Prop} {Q:Exit→Act→World→Prop} {E:Prop} (w:World) (hgd:o.guard=none) (s x:Operand) (t:TypeId)
  (ho:o.op=.call { callee:=.builtin .append,args:=#[s,x],argTypes:=#[t,t] })
  (base:Nat) (e:TypeId) (i:TypeInfo) (z:Value) (size bytes:Nat) (ht:P.underlying t=some (.slice e)) (hi:P.info? e=some i) (hz:i.zero=some z)
  (hsize:i.size=size) (hby:i.bytes=bytes) (hzs:z.cells.size=size) (hsz:0<size)
  (v:Value) (n:Nat) (xs:List Value) (hs:a.eval s=v) (hown:w.ownsRow base e size v n xs)
  (A:Option Addr) (m c:Nat) (news:List Value) (hx:a.eval x=.slice A m c) (hl:news.length=m*size) (hnews:m=0∨∃ad,A=some ad∧∀j u,news[j]?=some u→w.cell? (ad.add j)=some u) (h1:∀u∈news,u.oneCell'=true)
  (h63:n+m≤maxLen) (hbytes:(n+m)*bytes≤140737488355328) (hbase:base≤w.heap.size) (H:Nat) (hH:w.heap.size=H)
  (h:∀v' w',w'.ownsRow base e size v' (n+m) (xs++news)→w.grownBy w' v.ownBlock→(∀g,v'.ownBlock=some g→(v.ownBlock=some g∨g=H)∧g<w'.heap.size)→K (a.put o.dst v') w') :
  if Region.wanted o (yielded ops a.tmps)=true then Oper.wp P o a w K Q else E:=by
 by_cases hn:0<n
 ·refine step_append_row w hgd s x t ho base e i z size bytes ht hi hz hsize hby hzs hsz v n xs hs hown hn A m c news hx hl hnews h1 h63 hbytes hbase H hH ?_
  intro g cap w' a1 a2 a3 a4
  exact h _ _ a1 a2 (fun g' e=>by
   have e':g=g':=(by simpa [Value.ownBlock] using e)
   subst e'
   exact ⟨a3,a4⟩)
 ·have hw:Region.wanted o (yielded ops a.tmps)=true:=by simp [Region.wanted,hgd]
  rw [if_pos hw]
  have hn0:n=0:=by omega
  subst hn0
  by_cases h0:m=0
  ·subst h0
   have hnil:news=[]:=List.eq_nil_of_length_eq_zero (by rw [hl];simp)
   subst hnil
   have hxs:xs=[]:=List.eq_nil_of_length_eq_zero (by have:=hown.1;simpa using this)
   subst hxs
   rcases hown.2 with ⟨hv,_⟩|⟨g,cap,cur,hv,hb,hg,hcap,hmax,hcs,htake⟩
   ·subst hv
    refine Go.Lib.wp_append_run_sl w s x t ho _ _ hs hx (run_append_nothing (P:=P) w t t o.type e i ht hi none 0 0 (Nat.le_refl _) (.slice A 0 c) ?_) ?_
    ·cases A with
     |none=>exact Src.ofNil (size:=i.size) w ht c
     |some ad=>exact Src.ofSlice (size:=i.size) w ht ad 0 c [] (by simp) (by simp) (by simp)
    ·exact h _ w (World.ownsRow_nil _ _ _ _) ⟨rfl,rfl,rfl,Nat.le_refl _,fun _ _ _=>rfl⟩ (fun g e=>by cases e)
   ·subst hv
    have hgl:g<w.heap.size:=(Array.getElem?_eq_some_iff.1 hg).1
    refine Go.Lib.wp_append_run_sl w s x t ho _ _ hs hx (run_append_nothing (P:=P) w t t o.type e i ht hi (some ⟨g,0,none⟩) 0 cap hcap (.slice A 0 c) ?_) ?_
    ·cases A with
     |none=>exact Src.ofNil (size:=i.size) w ht c
     |some ad=>exact Src.ofSlice (size:=i.size) w ht ad 0 c [] (by simp) (by simp) (by simp)
    ·exact h _ w (by simpa using hown) ⟨rfl,rfl,rfl,Nat.le_refl _,fun _ _ _=>rfl⟩ (fun g' e=>by
      have e':g=g':=(by simpa [Value.ownBlock] using e)
      subst e'
      exact ⟨.inl rfl,hgl⟩)
  ·obtain ⟨ad,rfl,hnw⟩:∃ad,A=some ad∧∀j u,news[j]?=some u→w.cell? (ad.add j)=some u:=by
    rcases hnews with h2|h2
    ·exact absurd h2 h0
    ·exact h2
   refine wp_append_lies w s x t ho base e i z size bytes ht hi hz hsize hby hzs hsz v 0 xs hs hown ad m c news hx hl hnw h1 (by omega) h63 hbytes hbase H hH ?_
   intro g cap w' a1 a2 a3 a4
   exact h _ _ a1 a2 (fun g' e=>by
    have e':g=g':=(by simpa [Value.ownBlock] using e)
    subst e'
    exact ⟨a3,a4⟩)
end Go.Proofs.YtmignlclfbaifaaGreat
namespace Go.Proofs.YtmignlclfbaifaaGreat
open Go.RowKit
open Go.Deep
theorem hb_slr {α:Type} {w X:World} {sz:Nat} {R:List Value→α→Prop} {v:Value} {l:List α} (h:SlR w (· < w.heap.size) sz R v l) (hb:Below w.heap.size w X):SlR X (· < X.heap.size) sz R v l:=
 h.imp (fun _ h=>ltle h hb.size) (fun b h=>hb.block b h) (fun _ _ _ r=>r)
section
variable {u v:LUnit} {X W:World} {A1 A2 B1 B2:Option Addr} {c1 c2 d1 d2:Nat}
end
end Go.Proofs.YtmignlclfbaifaaGreat
namespace Go.Proofs.YtmignlclfbaifaaGreat
open Go.RowKit
theorem wpList_append_any {P:Program} (w:World) {ops:Array Oper} {rest:List Oper} {o:Oper} {a:Act} {Q:Exit→Act→World→Prop} (hgd:o.guard=none) (s x:Operand) (t:TypeId)
  (ho:o.op=.call { callee:=.builtin .append,args:=#[s,x],argTypes:=#[t,t] })
  (base:Nat) (e:TypeId) (i:TypeInfo) (z:Value) (size bytes:Nat) (ht:P.underlying t=some (.slice e)) (hi:P.info? e=some i) (hz:i.zero=some z)
  (hsize:i.size=size) (hby:i.bytes=bytes) (hzs:z.cells.size=size) (hsz:0<size)
  (v:Value) (n:Nat) (xs:List Value) (hs:a.eval s=v) (hown:w.ownsRow base e size v n xs)
  (A:Option Addr) (m c:Nat) (news:List Value) (hx:a.eval x=.slice A m c) (hl:news.length=m*size) (hnews:m=0∨∃ad,A=some ad∧∀j u,news[j]?=some u→w.cell? (ad.add j)=some u) (h1:∀u∈news,u.oneCell'=true)
  (h63:n+m≤maxLen) (hbytes:(n+m)*bytes≤140737488355328) (hbase:base≤w.heap.size) (H:Nat) (hH:w.heap.size=H)
  (h:∀v' w',w'.ownsRow base e size v' (n+m) (xs++news)→w.grownBy w' v.ownBlock→(∀g,v'.ownBlock=some g→(v.ownBlock=some g∨g=H)∧g<w'.heap.size)→wpList P ops Q rest (a.put o.dst v') w') :
  wpList P ops Q (o :: rest) a w:=by
 refine wpList_plain hgd fun K hK=>?_
 have hw:Region.wanted o (yielded ops a.tmps)=true:=by simp [Region.wanted,hgd]
 have h2:=step_append_any (ops:=ops) (Q:=Q) (K:=K) (E:=False) w hgd s x t ho base e i z size bytes ht hi hz hsize hby hzs hsz v n xs hs hown A m c news hx hl hnews h1 h63 hbytes hbase H hH (fun v' w' a1 a2 a3=>hK _ _ (h v' w' a1 a2 a3))
 rw [if_pos hw] at h2
 exact h2
end Go.Proofs.YtmignlclfbaifaaGreat
namespace Go.Proofs.YtmignlclfbaifaaGreat
open Go.RowKit
structure OwnX {α:Type} (w:World) (ok:Nat→Prop) (base:Nat) (T:TypeId) (sz:Nat) (R:World→(Nat→Prop)→List Value→α→Prop) (v:Value) (l:List α) (css:List (List Value)):Prop where
 len:css.length=l.length
 each:∀cs∈css,cs.length=sz
 row:w.ownsRow base T sz v l.length css.flatten
 elems:∀(i:Nat) (h1:i<css.length) (h2:i<l.length),R w ok css[i] l[i]
 free:∀g,v.ownBlock=some g→¬ok g
section
variable {α:Type} {w w':World} {ok ok':Nat→Prop} {base:Nat} {T:TypeId} {sz:Nat} {R:World→(Nat→Prop)→List Value→α→Prop} {v:Value} {l:List α} {css:List (List Value)}
theorem OwnX.keep (hm:MonoR R) (h:OwnX w ok base T sz R v l css) (hrow:w'.ownsRow base T sz v l.length css.flatten) (hok:∀b,ok b→ok' b) (hk:Keeps ok w w') (hf:∀g,v.ownBlock=some g→¬ok' g):OwnX w' ok' base T sz R v l css:=
 ⟨h.len,h.each,hrow,fun i h1 h2=>hm _ _ _ _ _ _ (h.elems i h1 h2) hok hk,hf⟩
theorem OwnX.grown (hm:MonoR R) (h:OwnX w ok base T sz R v l css) {row:Option Nat} (hg:w.grownBy w' row) (hne:∀g,v.ownBlock=some g→row≠some g) (hlt:∀b,ok b→b<w.heap.size) (hrow:∀b,ok b→row≠some b) (hok:∀b,ok b→ok' b) (hf:∀g,v.ownBlock=some g→¬ok' g):OwnX w' ok' base T sz R v l css:=
 h.keep hm (h.row.kept hg (by
  cases e:v.ownBlock with
  |none=>exact .inl rfl
  |some g=>exact .inr (fun e2=>hne g e e2.symm))) hok (fun b hb=>hg.block b (hlt b hb) (fun e=>hrow b hb e.symm)) hf
theorem OwnX.below (hm:MonoR R) (h:OwnX w ok base T sz R v l css) (hb:Below w.heap.size w w') (hlt:∀b,ok b→b<w.heap.size) (hok:∀b,ok b→ok' b) (hf:∀g,v.ownBlock=some g→¬ok' g):OwnX w' ok' base T sz R v l css:=
 h.grown hm (row:=none) ⟨hb.os,hb.tape,hb.output,hb.size,fun k hk _=>hb.block k hk⟩ (fun _ _ e=>by cases e) hlt (fun _ _ e=>by cases e) hok hf
theorem OwnX.put {g n cap i j:Nat} {c:Value} {x:α} (hm:MonoR R) (h:OwnX w ok base T sz R (.slice (some ⟨g,0,none⟩) n cap) l css) (hn:n=l.length) (hj:j<css.length) (hi:i<sz) (hx:R w ok (css[j].set i c) x) :
  OwnX (w.setCell ⟨g,j*sz+i,none⟩ c) ok base T sz R (.slice (some ⟨g,0,none⟩) n cap) (l.set j x) (css.set j (css[j].set i c)):=by
 subst hn
 have hrow:=OwnL.put1 h.row h.each hj hi c x
 have hk:Keeps ok w (w.setCell ⟨g,j*sz+i,none⟩ c):=(Keeps.refl _ _).set (fun b hb e=>h.free g rfl (by rw [←show b=g from e];exact hb)) _
 refine ⟨by simp [h.len],fun cs hcs=>?_,by rw [List.length_set];exact hrow,fun a h1 h2=>?_,h.free⟩
 ·rcases List.mem_or_eq_of_mem_set hcs with h1|h1
  ·exact h.each cs h1
  ·rw [h1,List.length_set];exact h.each _ (List.getElem_mem _)
 ·by_cases e:j=a
  ·subst e
   rw [List.getElem_set_self,List.getElem_set_self]
   exact hm _ _ _ _ _ _ hx (fun _ h=>h) hk
  ·rw [List.getElem_set_ne e,List.getElem_set_ne e]
   exact hm _ _ _ _ _ _ (h.elems a (by simpa using h1) (by simpa using h2)) (fun _ h=>h) hk
theorem OwnX.slr (hm:MonoR R) (h:OwnX w ok base T sz R v l css) (hok:∀b,ok b→ok' b) (hg:∀g,v.ownBlock=some g→ok' g):SlR w ok' sz (R w ok') v l:=
 SlR.of_own h.row rfl h.len h.each (fun i h1 h2=>hm _ _ _ _ _ _ (h.elems i h1 h2) hok (Keeps.refl _ _)) hg
theorem OwnX.cell {g n cap i j:Nat} (h:OwnX w ok base T sz R (.slice (some ⟨g,0,none⟩) n cap) l css) (hn:n=l.length) (hj:j<css.length) (hi:i<css[j].length):w.cell? ⟨g,j*sz+i,none⟩=some css[j][i]:=by
 subst hn
 have hs:css[j].length=sz:=h.each _ (List.getElem_mem _)
 have hl:=h.len
 rw [h.row.cellAt (j*sz+i) (by
  have:(j+1)*sz≤l.length*sz:=Nat.mul_le_mul_right _ (by omega)
  rw [Nat.succ_mul] at this;omega)]
 exact flatten_get css h.each j i hj hi
theorem OwnX.frozen {g n cap:Nat} (h:OwnX w ok base T sz R (.slice (some ⟨g,0,none⟩) n cap) l css) (hn:n=l.length) (i:Nat):w.frozen? ⟨g,i,none⟩=false:=by
 subst hn
 exact h.row.frozenAt i
theorem OwnX.cloned {w0:World} {ok0:Nat→Prop} (hm:MonoR R) (hrow:w'.ownsRow base T sz v l.length css.flatten) (hl:css.length=l.length) (hs:∀cs∈css,cs.length=sz) (hR:∀(i:Nat) (h1:i<css.length) (h2:i<l.length),R w0 ok0 css[i] l[i])
  (hk:Keeps ok0 w0 w') (hok:∀b,ok0 b→ok' b) (hf:∀g,v.ownBlock=some g→¬ok' g):OwnX w' ok' base T sz R v l css:=
 ⟨hl,hs,hrow,fun i h1 h2=>hm _ _ _ _ _ _ (hR i h1 h2) hok hk,hf⟩
theorem OwnX.snoc {x:α} {cs:List Value} {v':Value} (hm:MonoR R) (h:OwnX w ok base T sz R v l css) (hs:cs.length=sz) (hrow:w'.ownsRow base T sz v' (l.length+1) (css.flatten++cs)) (hk:Keeps ok w w') (hok:∀b,ok b→ok' b) (hf:∀g,v'.ownBlock=some g→¬ok' g) (hx:R w' ok' cs x) :
  OwnX w' ok' base T sz R v' (l++[x]) (css++[cs]):=by
 refine ⟨by simp [h.len],fun c hc=>?_,by rw [List.length_append];simpa using hrow,fun a h1 h2=>?_,hf⟩
 ·rcases List.mem_append.1 hc with h1|h1
  ·exact h.each c h1
  ·obtain rfl:=List.mem_singleton.1 h1;exact hs
 ·by_cases e:a<css.length
  ·have e2:a<l.length:=by rw [←h.len];exact e
   rw [List.getElem_append_left e,List.getElem_append_left e2]
   exact hm _ _ _ _ _ _ (h.elems a e e2) hok hk
  ·have e1:a=css.length:=by simp at h1;omega
   subst e1
   have hl:=h.len
   rw [List.getElem_append_right (Nat.le_refl _),List.getElem_append_right (by omega)]
   simpa [hl] using hx
theorem OwnX.nil_ (w:World) (ok:Nat→Prop) (base:Nat) (T:TypeId) (sz:Nat) (R:World→(Nat→Prop)→List Value→α→Prop):OwnX w ok base T sz R (.slice none 0 0) [] []:=
 ⟨rfl,fun _ h=>(by cases h),World.ownsRow_nil _ _ _ _,fun i h=>(by cases h),fun g e=>(by cases e)⟩
theorem own_some {w:World} {base:Nat} {T:TypeId} {sz n:Nat} {v:Value} {xs:List Value} (h:w.ownsRow base T sz v n xs) (hn:0<n):∃g c,v=.slice (some ⟨g,0,none⟩) n c∧base≤g∧g<w.heap.size∧n≤c:=by
 rcases h.2 with ⟨_,h0⟩|⟨g,cap,cur,hv,hb,hg,hc,_⟩
 ·omega
 ·exact ⟨g,cap,hv,hb,(Array.getElem?_eq_some_iff.1 hg).1,hc⟩
end
theorem own_low {w:World} {base base':Nat} {e:TypeId} {size:Nat} {v:Value} {n:Nat} {xs:List Value} (h:w.ownsRow base e size v n xs) (hb:base'≤base):w.ownsRow base' e size v n xs:=by
 refine ⟨h.1,?_⟩
 rcases h.2 with h2|⟨g,cap,cur,h1,h2,h3⟩
 ·exact .inl h2
 ·exact .inr ⟨g,cap,cur,h1,by omega,h3⟩
theorem own_cell {w:World} {base g n cap sz:Nat} {T:TypeId} {xs:List Value} (h:w.ownsRow base T sz (.slice (some ⟨g,0,none⟩) n cap) n xs) (j:Nat) (hj:j<n*sz):∃u,w.cell? ⟨g,j,none⟩=some u:=
 ⟨xs[j]'(by rw [h.1];exact hj),by rw [h.cellAt j hj];exact List.getElem?_eq_getElem _⟩
section
variable {S0 xb fb:Nat} {X Y:World} {f:LFlow} {A:Option Addr} {c:Nat}
end
end Go.Proofs.YtmignlclfbaifaaGreat
namespace Go.Proofs.YtmignlclfbaifaaGreat
open Go.RowKit Go.Shelf Go.Maps
attribute [local go_sem] Oper.semAt_some
theorem grown_set (W:World) (p:Addr) (v:Value):W.grownBy (W.setCell p v) (some p.block):=
 ⟨rfl,rfl,rfl,by simp [World.setCell],fun k _ hne=>bhs W _ _ k (fun e=>hne (by rw [e]))⟩
end Go.Proofs.YtmignlclfbaifaaGreat
namespace Go.Proofs.YtmignlclfbaifaaGreat
end Go.Proofs.YtmignlclfbaifaaGreat
namespace Go.Proofs.YtmignlclfbaifaaGreat
open Go.RowKit
end Go.Proofs.YtmignlclfbaifaaGreat
namespace Go.Proofs.YtmignlclfbaifaaGreat
open Go.RowKit
end Go.Proofs.YtmignlclfbaifaaGreat
namespace Go.Proofs.YtmignlclfbaifaaGreat
open Go.RowKit
end Go.Proofs.YtmignlclfbaifaaGreat
namespace Go.Proofs.YtmignlclfbaifaaGreat
open Go.RowKit
theorem results_cellT {P:Program} {fn:Func} {p q:Tmp} {ty:TypeId} (h:fn.results=#[.cell p ty,.tmp q]) (tmps:Array Value) (w:World) (g:Nat) (t:TypeId) (cs:Array Value) (fr:Nat × Nat) (d:TypeDesc) (x:Value)
  (hp:tmps.getD p undef=.pointer (some ⟨g,0,none⟩)) (hq:tmps.getD q undef=x) (hg:w.heap[g]?=some (.cells cs t fr))
  (hu:P.underlying ty=some d) (hd:(match d with|.struct _|.array _ _=>true|_=>false)=true) (hi:(P.info? ty).map (·.size)=some cs.size) :
  (results fn tmps).run P w=.ok (.tuple #[.agg cs,x]) w:=by
 rw [results_cell_tmp h,hp,hq]
 have ha:(asAddr (.pointer (some ⟨g,0,none⟩))).run P w=.ok ⟨g,0,none⟩ w:=rfl
 rw [ha]
 show ((loadVar ty ⟨g,0,none⟩).run P w).andThen _=_
 rw [run_loadVar_row w g t ty cs fr d hg hu hd hi];rfl
end Go.Proofs.YtmignlclfbaifaaGreat
