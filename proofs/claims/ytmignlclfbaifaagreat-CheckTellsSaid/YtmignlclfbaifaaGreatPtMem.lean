/- How the program's data lie in memory: rows of cells, slices that read as lists, the structures of a unit. No walk in sight. -/
import Derived.WalkKit
import Derived.WalkSpells
namespace Go.Proofs.YtmignlclfbaifaaGreat
open Go.RowKit
theorem Ω {p : Prop} (h : p) : Hid p := h
theorem ltle {a b c : Nat} (h : a < b) (k : b ≤ c) : a < c := Nat.lt_of_lt_of_le h k
theorem dF {p : Prop} [Decidable p] (h : ¬p) : decide p = false := decide_eq_false h
theorem dT {p : Prop} [Decidable p] (h : p) : decide p = true := decide_eq_true h
theorem sj {α : Type} {a b : α} (h : some a = some b) : a = b := Option.some.inj h
theorem bhs (w : World) (p : Addr) (u : Value) (k : Nat) (h : k ≠ p.block) : (w.setCell p u).heap[k]? = w.heap[k]? := Below.heap_setCell w p u k h
def Cells (w:World) (b off:Nat) (vs:List Value):Prop:=∀(j:Nat) (h:j<vs.length),w.cell? ⟨b,off+j,none⟩=some vs[j]
def Keeps (ok:Nat→Prop) (w w':World):Prop:=∀b,ok b→w'.heap[b]?=w.heap[b]?
theorem Keeps.refl (ok:Nat→Prop) (w:World):Keeps ok w w:=fun _ _=>rfl
theorem Keeps.mono {ok ok':Nat→Prop} {w w':World} (h:Keeps ok w w') (hs:∀b,ok' b→ok b):Keeps ok' w w':=fun b hb=>h b (hs b hb)
theorem Keeps.set {ok:Nat→Prop} {w w':World} (h:Keeps ok w w') {p:Addr} (hne:∀b,ok b→b≠p.block) (u:Value):Keeps ok w (w'.setCell p u):=fun b hb=>(Below.heap_setCell w' p u b (hne b hb)).trans (h b hb)
theorem Keeps.of_below {B:Nat} {w w':World} (h:Below B w w'):Keeps (· < B) w w':=fun b hb=>h.block b hb
theorem Cells.keep {w w':World} {b off:Nat} {vs:List Value} (h:Cells w b off vs) (hk:w'.heap[b]?=w.heap[b]?):Cells w' b off vs:=fun j hj=>by
 rw [World.cell?_of_block (w:=w) (w':=w') (a:=⟨b,off+j,none⟩) hk];exact h j hj
theorem Cells.at_ {w:World} {b off:Nat} {vs:List Value} (h:Cells w b off vs) {j:Nat} {v:Value} (hj:vs[j]?=some v):w.cell? ⟨b,off+j,none⟩=some v:=by
 obtain ⟨h1,h2⟩:=List.getElem?_eq_some_iff.1 hj
 rw [h j h1,h2]
def SlR {α:Type} (w:World) (ok:Nat→Prop) (sz:Nat) (R:List Value→α→Prop) (v:Value) (l:List α):Prop:=
 ∃A c,v=.slice A l.length c∧l.length≤c∧c≤maxLen∧
  (l=[]∨∃b off,A=some ⟨b,off,none⟩∧ok b∧∀(i:Nat) (h:i<l.length),∃cs,cs.length=sz∧R cs l[i]∧Cells w b (off+i*sz) cs)
section
variable {α:Type} {w w':World} {ok ok':Nat→Prop} {sz:Nat} {R R':List Value→α→Prop} {v:Value} {l:List α}
theorem SlR.imp (h:SlR w ok sz R v l) (hok:∀b,ok b→ok' b) (hk:Keeps ok w w') (hR:∀cs x,x∈l→R cs x→R' cs x):SlR w' ok' sz R' v l:=by
 obtain ⟨A,c,hv,h1,h2,h3⟩:=h
 refine ⟨A,c,hv,h1,h2,?_⟩
 rcases h3 with h3|⟨b,off,hA,hb,hi⟩
 ·exact .inl h3
 ·refine .inr ⟨b,off,hA,hok b hb,fun i hl=>?_⟩
  obtain ⟨cs,hl',hr,hc⟩:=hi i hl
  exact ⟨cs,hl',hR _ _ (List.getElem_mem _) hr,hc.keep (hk b hb)⟩
theorem SlR.nil_ (w:World) (ok:Nat→Prop) (sz:Nat) (R:List Value→α→Prop):SlR w ok sz R (.slice none 0 0) []:=
 ⟨none,0,rfl,Nat.le_refl _,by simp,.inl rfl⟩
theorem SlR.len_le (h:SlR w ok sz R v l):l.length≤maxLen:=by
 obtain ⟨_,c,_,h1,h2,_⟩:=h;omega
theorem SlR.form (h:SlR w ok sz R v l) (hl:0<l.length):∃b off c,v=.slice (some ⟨b,off,none⟩) l.length c∧l.length≤c∧c≤maxLen∧ok b∧
  ∀(i:Nat) (h:i<l.length),∃cs,cs.length=sz∧R cs l[i]∧Cells w b (off+i*sz) cs:=by
 obtain ⟨A,c,hv,h1,h2,h3⟩:=h
 rcases h3 with rfl|⟨b,off,rfl,hb,hi⟩
 ·simp at hl
 ·exact ⟨b,off,c,hv,h1,h2,hb,hi⟩
theorem SlR.val (h:SlR w ok sz R v l):∃A c,v=.slice A l.length c∧l.length≤c∧c≤maxLen:=by
 obtain ⟨A,c,hv,h1,h2,_⟩:=h
 exact ⟨A,c,hv,h1,h2⟩
end
def RInt (cs:List Value) (n:Int):Prop:=cs=[.int .i64 n]
def RStr (cs:List Value) (s:ByteArray):Prop:=cs=[.string s]
structure LIns where
 kind:Int
 d:Int
 a:Int
 b:Int
 op:Int
 n:Int
 name:ByteArray
 args:List Int
structure LTerm where
 kind:Int
 a:Int
 to:Int
 els:Int
structure LBlock where
 ins:List LIns
 term:LTerm
structure LFlow where
 name:ByteArray
 params:Int
 values:Int
 blocks:List LBlock
structure LUnit where
 arrays:List (ByteArray × Int)
 flows:List LFlow
def RArr (cs:List Value) (a:ByteArray × Int):Prop:=cs=[.string a.1,.int .i64 a.2]
section
variable {w w':World} {ok ok':Nat→Prop} {cs:List Value}
end
def Blk (w:World) (g:Nat) (t:TypeId) (cs:Array Value):Prop:=w.heap[g]?=some (.cells cs t (0,0))
section
variable {w w':World} {g:Nat} {t:TypeId} {cs:Array Value}
theorem Blk.lt (h:Blk w g t cs):g<w.heap.size:=by
 by_cases hlt:g<w.heap.size
 ·exact hlt
 ·unfold Blk at h;rw [Array.getElem?_eq_none (by omega)] at h;cases h
theorem Blk.cell (h:Blk w g t cs) (i:Nat):w.cell? ⟨g,i,none⟩=cs[i]?:=cell_of_row w g i cs t (0,0) h
theorem Blk.frozen (h:Blk w g t cs) (i:Nat):w.frozen? ⟨g,i,none⟩=false:=by
 unfold Blk at h
 simp [World.frozen?,h]
theorem Blk.new (w:World) (t:TypeId) (cs:Array Value):Blk (w.alloc (.cells cs t)) w.heap.size t cs:=heap_alloc_new w _
theorem Blk.new_at (w:World) (t:TypeId) (cs:Array Value) {n:Nat} (hn:n=w.heap.size):Blk (w.alloc (.cells cs t)) n t cs:=by subst hn;exact Blk.new w t cs
theorem Blk.drew (h:Blk w g t cs):Blk w.drew g t cs:=h
theorem Blk.alloc (h:Blk w g t cs) (o:Obj):Blk (w.alloc o) g t cs:=(Below.heap_alloc w o g h.lt).trans h
theorem Blk.set_ (h:Blk w g t cs) (i:Nat) (u:Value):Blk (w.setCell ⟨g,i,none⟩ u) g t (cs.setIfInBounds i u):=by
 unfold Blk at h ⊢
 simp [World.setCell,Array.getElem?_modify,h]
theorem Blk.far (h:Blk w g t cs) {p:Addr} (hp:g≠p.block) (u:Value):Blk (w.setCell p u) g t cs:=(Below.heap_setCell w p u g hp).trans h
theorem Blk.below {B:Nat} (h:Blk w g t cs) (hb:Below B w w') (hg:g<B):Blk w' g t cs:=(hb.block g hg).trans h
theorem Blk.grown {row:Option Nat} (h:Blk w g t cs) (hb:w.grownBy w' row) (hg:row≠some g):Blk w' g t cs:=(hb.block g h.lt (fun e=>hg e.symm)).trans h
theorem Blk.c5 {w:World} {g:Nat} {t:TypeId} {a b c d e:Value} (h:Blk w g t #[a,b,c,d,e]):w.cell? ⟨g,0,none⟩=some a∧w.cell? ⟨g,1,none⟩=some b∧w.cell? ⟨g,2,none⟩=some c∧w.cell? ⟨g,3,none⟩=some d∧w.cell? ⟨g,4,none⟩=some e:=⟨h.cell 0,h.cell 1,h.cell 2,h.cell 3,h.cell 4⟩
theorem Blk.z5 {w:World} {g:Nat} {t:TypeId} {c:Array Value} (h:Blk w g t c):w.frozen? ⟨g,0,none⟩=false∧w.frozen? ⟨g,1,none⟩=false∧w.frozen? ⟨g,2,none⟩=false∧w.frozen? ⟨g,3,none⟩=false∧w.frozen? ⟨g,4,none⟩=false:=⟨h.frozen 0,h.frozen 1,h.frozen 2,h.frozen 3,h.frozen 4⟩
theorem Blk.keep (h:Blk w g t cs) (hk:w'.heap[g]?=w.heap[g]?):Blk w' g t cs:=hk.trans h
end
theorem own_form {w:World} {base:Nat} {e:TypeId} {size:Nat} {v:Value} {n:Nat} {xs:List Value} (h:w.ownsRow base e size v n xs):∃A c,v=.slice A n c:=by
 rcases h.2 with ⟨rfl,rfl⟩|⟨g,cap,cur,rfl,_⟩
 ·exact ⟨_,_,rfl⟩
 ·exact ⟨_,_,rfl⟩
theorem Cells.of_own {w:World} {base:Nat} {e:TypeId} {size:Nat} {v:Value} {n:Nat} {xs:List Value} (h:w.ownsRow base e size v n xs) {g c:Nat} (hv:v=.slice (some ⟨g,0,none⟩) n c):Cells w g 0 xs:=by
 subst hv
 intro j hj
 have hadd:(⟨g,0,none⟩:Addr).add j=⟨g,0+j,none⟩:=by unfold Addr.add;split <;> simp_all
 have:=h.cells (g:=g) rfl j xs[j] (List.getElem?_eq_getElem hj)
 rw [hadd] at this
 exact this
theorem SlR.of_own {α:Type} {w:World} {base:Nat} {e:TypeId} {sz:Nat} {v:Value} {n:Nat} {l:List α} {css:List (List Value)} {ok:Nat→Prop} {R:List Value→α→Prop}
  (h:w.ownsRow base e sz v n css.flatten) (hn:n=l.length) (hl:css.length=l.length) (hsz:∀cs∈css,cs.length=sz)
  (hR:∀(i:Nat) (h1:i<css.length) (h2:i<l.length),R css[i] l[i]) (hok:∀g,v.ownBlock=some g→ok g):SlR w ok sz R v l:=by
 subst hn
 rcases h.2 with ⟨rfl,h0⟩|⟨g,cap,cur,rfl,hb,hg,hnc,hcm,hcs,htake⟩
 ·obtain rfl:l=[]:=List.eq_nil_of_length_eq_zero h0
  exact SlR.nil_ _ _ _ _
 ·refine ⟨some ⟨g,0,none⟩,cap,rfl,hnc,hcm,.inr ⟨g,0,rfl,hok g rfl,fun i hi=>?_⟩⟩
  have hi':i<css.length:=by omega
  refine ⟨css[i],hsz _ (List.getElem_mem _),hR i hi' hi,?_⟩
  have hC:=Cells.of_own h (g:=g) (c:=cap) rfl
  intro j hj
  have hs:css[i].length=sz:=hsz _ (List.getElem_mem _)
  have key:∀(css:List (List Value)),(∀cs∈css,cs.length=sz)→∀(i j:Nat) (hi:i<css.length) (hj:j<(css[i]).length),css.flatten[i*sz+j]?=some (css[i])[j]:=by
   intro css
   induction css with
   |nil=>intro _ i j hi;simp at hi
   |cons c r ih=>
    intro hall i j hi hj
    have hc:c.length=sz:=hall c (by simp)
    rw [List.flatten_cons]
    match i,hi,hj with
    |0,_,hj=>
     have hj':j<c.length:=hj
     rw [Nat.zero_mul,Nat.zero_add,List.getElem?_append_left hj']
     exact List.getElem?_eq_getElem hj'
    |i+1,hi,hj=>
     have e1:(i+1)*sz+j=c.length+(i*sz+j):=by rw [hc,Nat.succ_mul];omega
     rw [e1,List.getElem?_append_right (by omega),Nat.add_sub_cancel_left]
     exact ih (fun cs hcs=>hall cs (by simp [hcs])) i j (by simpa using hi) hj
  have hk:=key css hsz i j hi' hj
  have:=hC.at_ hk
  rw [Nat.zero_add] at this ⊢
  exact this
theorem flatten_single {α:Type} (l:List α):(l.map fun x=>[x]).flatten=l:=by
 induction l with
 |nil=>rfl
 |cons a r ih=>simp only [List.map_cons,List.flatten_cons,List.singleton_append,ih]
def MonoR {α:Type} (R:World→(Nat→Prop)→List Value→α→Prop):Prop:=
 ∀(w w':World) (ok ok':Nat→Prop) (cs:List Value) (x:α),R w ok cs x→(∀b,ok b→ok' b)→Keeps ok w w'→R w' ok' cs x
def okOwn (base:Nat) (w:World) (v:Value) (b:Nat):Prop:=base≤b∧b<w.heap.size∧v.ownBlock≠some b
structure OwnL {α:Type} (w:World) (base:Nat) (T:TypeId) (sz:Nat) (R:World→(Nat→Prop)→List Value→α→Prop) (v:Value) (l:List α) (css:List (List Value)):Prop where
 len:css.length=l.length
 each:∀cs∈css,cs.length=sz
 row:w.ownsRow base T sz v l.length css.flatten
 elems:∀(i:Nat) (h1:i<css.length) (h2:i<l.length),R w (okOwn base w v) css[i] l[i]
section
variable {α:Type} {w w':World} {base:Nat} {T:TypeId} {sz:Nat} {R:World→(Nat→Prop)→List Value→α→Prop} {v:Value} {l:List α} {css:List (List Value)}
theorem OwnL.nil_ (w:World) (base:Nat) (T:TypeId) (sz:Nat) (R:World→(Nat→Prop)→List Value→α→Prop):OwnL w base T sz R (.slice none 0 0) [] []:=
 ⟨rfl,by simp,World.ownsRow_nil _ _ _ _,fun i h=>by simp at h⟩
theorem OwnL.lt (h:OwnL w base T sz R v l css):∀k,v.ownBlock=some k→base≤k∧k<w.heap.size:=h.row.lt
theorem OwnL.keep (hm:MonoR R) (h:OwnL w base T sz R v l css) (hk:Keeps (fun b=>base≤b∧b<w.heap.size) w w') (hs:w.heap.size≤w'.heap.size):OwnL w' base T sz R v l css:=by
 refine ⟨h.len,h.each,?_,fun i h1 h2=>hm _ _ _ _ _ _ (h.elems i h1 h2) (fun b hb=>⟨hb.1,Nat.lt_of_lt_of_le hb.2.1 hs,hb.2.2⟩) (hk.mono fun b hb=>⟨hb.1,hb.2.1⟩)⟩
 refine ⟨h.row.1,?_⟩
 rcases h.row.2 with hn|⟨g,cap,cur,hv,hb,hg,rest⟩
 ·exact .inl hn
 ·refine .inr ⟨g,cap,cur,hv,hb,?_,rest⟩
  rw [hk g ⟨hb,(Array.getElem?_eq_some_iff.1 hg).1⟩]
  exact hg
theorem OwnL.snoc {wa:World} {x:α} {cs:List Value} {g cap:Nat} (hm:MonoR R) (h:OwnL w base T sz R v l css) (hb:Keeps (fun b=>base≤b∧b<w.heap.size) w wa) (hsz:w.heap.size≤wa.heap.size)
  (hcs:cs.length=sz) (hown:w'.ownsRow base T sz (.slice (some ⟨g,0,none⟩) (l.length+1) cap) (l.length+1) (css.flatten++cs)) (hg:wa.grownBy w' v.ownBlock)
  (hat:v.ownBlock=some g∨wa.heap.size≤g) (hx:R wa (fun b=>base≤b∧b<wa.heap.size∧v.ownBlock≠some b) cs x) :
  OwnL w' base T sz R (.slice (some ⟨g,0,none⟩) (l.length+1) cap) (l++[x]) (css++[cs]):=by
 have hsub:∀b,(base≤b∧b<wa.heap.size∧v.ownBlock≠some b)→okOwn base w' (.slice (some ⟨g,0,none⟩) (l.length+1) cap) b:=by
  intro b hb'
  refine ⟨hb'.1,Nat.lt_of_lt_of_le hb'.2.1 hg.size,?_⟩
  intro e
  have e':g=b:=by simpa [Value.ownBlock] using e
  rcases hat with hat|hat
  ·exact hb'.2.2 (by rw [hat,e'])
  ·have:=hb'.2.1;omega
 have hkeep:Keeps (fun b=>base≤b∧b<wa.heap.size∧v.ownBlock≠some b) wa w':=fun b hb'=>hg.block b hb'.2.1 (fun e=>hb'.2.2 e.symm)
 refine ⟨by simp [h.len],?_,?_,?_⟩
 ·intro c hc
  rcases List.mem_append.1 hc with hc|hc
  ·exact h.each c hc
  ·rw [List.mem_singleton.1 hc];exact hcs
 ·rw [List.length_append,List.length_singleton,List.flatten_append,List.flatten_singleton]
  exact hown
 ·intro i h1 h2
  by_cases hi:i<css.length
  ·have hi':i<l.length:=by rw [←h.len];exact hi
   rw [List.getElem_append_left hi,List.getElem_append_left hi']
   have h3:=hm _ _ _ (fun b=>base≤b∧b<wa.heap.size∧v.ownBlock≠some b) _ _ (h.elems i hi hi') (fun b hb'=>⟨hb'.1,Nat.lt_of_lt_of_le hb'.2.1 hsz,hb'.2.2⟩) (hb.mono fun b hb'=>⟨hb'.1,hb'.2.1⟩)
   exact hm _ _ _ _ _ _ h3 hsub hkeep
  ·have hi2:i=css.length:=by simp at h1;omega
   subst hi2
   rw [List.getElem_append_right (by omega),List.getElem_append_right (by rw [h.len];omega)]
   simp only [Nat.sub_self,h.len,List.getElem_singleton]
   exact hm _ _ _ _ _ _ hx hsub hkeep
theorem OwnL.slr (hm:MonoR R) (h:OwnL w base T sz R v l css):SlR w (fun b=>base≤b∧b<w.heap.size) sz (R w (fun b=>base≤b∧b<w.heap.size)) v l:=
 SlR.of_own h.row rfl h.len h.each (fun i h1 h2=>hm _ _ _ _ _ _ (h.elems i h1 h2) (fun _ hb=>⟨hb.1,hb.2.1⟩) (Keeps.refl _ _)) (fun g hg=>h.lt g hg)
end
end Go.Proofs.YtmignlclfbaifaaGreat
