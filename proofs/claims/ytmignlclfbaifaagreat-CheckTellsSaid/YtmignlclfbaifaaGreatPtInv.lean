/- Regions that draw their order, by an invariant: whatever has come up, what is known of it holds; each operation is walked once. -/
import Derived.Test.YtmignlclfbaifaaGreatPtRegion
namespace Go.Proofs.YtmignlclfbaifaaGreat
open Go
section
variable {P:Program} {ops:Array Oper} {Q:Exit→Act→World→Prop} {I:Array Bool→Act→World→Prop}
def depsOf (o:Oper):List Nat:=(o.after.toList.filter fun e=>Region.binds .any e).map (·.on)
def forwardB (ops:Array Oper):Bool:=(List.range ops.size).all fun i=>(((ops[i]?).map depsOf).getD []).all fun k=>decide (k<i)
def StepI (P:Program) (ops:Array Oper) (Q:Exit→Act→World→Prop) (I:Array Bool→Act→World→Prop) (i:Nat):Prop:=
 ∀(listed:Array Bool) (a:Act) (w:World),listed.size=ops.size→I listed a w→listed.getD i true=false→(∀o,ops[i]?=some o→∀k∈depsOf o,listed.getD k false=true)→wpOp P ops Q i (fun a' w'=>I (listed.setIfInBounds i true) a' w') a w
def StepsI (P:Program) (ops:Array Oper) (Q:Exit→Act→World→Prop) (I:Array Bool→Act→World→Prop) (l:List Nat):Prop:=∀i∈l,StepI P ops Q I i
theorem StepsI.nil:StepsI P ops Q I []:=fun _ h=>by cases h
theorem StepsI.cons {i:Nat} {o:Oper} {l:List Nat} (ds:List Nat) (ho:ops[i]?=some o) (hds:depsOf o=ds)
  (h:∀(listed:Array Bool) (a:Act) (w:World),I listed a w→(∀k∈ds,listed.getD k false=true)→(listed.setIfInBounds i true).getD i false=true→listed.getD i false=false→∀K':Act→World→Prop,Shut (∀a w,((∀k,(listed.setIfInBounds i true).getD k false=true→k=i∨listed.getD k false=true)→I (listed.setIfInBounds i true) a w)→K' a w)→if Region.wanted o (yielded ops a.tmps)=true then Oper.wp P o a w K' Q else K' (a.put o.dst undef) w)
  (hl:StepsI P ops Q I l):StepsI P ops Q I (i :: l):=fun j hj=>by
 rcases List.mem_cons.1 hj with rfl|hj
 ·intro listed a w hsz hI hun hd
  refine wpOp_step ho (fun K' hK=>h listed a w hI (fun k hk=>hd o ho k (hds▸hk)) (by simp [hsz,(Array.getElem?_eq_some_iff.1 ho).1]) (getD_false hun) K' (fun a w hW=>hK a w (hW fun k hk=>?_)))
  rcases Nat.decEq k j with hne|rfl
  ·refine .inr ?_
   rwa [getD_set_ne false (fun e=>hne e.symm)] at hk
  ·exact .inl rfl
 ·exact hl j hj
def openN (n:Nat) (listed:Array Bool):Nat:=((List.range n).filter fun i=>!listed.getD i true).length
theorem openN_set {n:Nat} {listed:Array Bool} {i:Nat} (hi:i<n) (hs:listed.size=n) (h:listed.getD i true=false):openN n (listed.setIfInBounds i true)<openN n listed:=by
 unfold openN
 have key:∀l:List Nat,l.Nodup→i∈l→(l.filter fun k=>!(listed.setIfInBounds i true).getD k true).length<(l.filter fun k=>!listed.getD k true).length:=by
  intro l
  induction l with
  |nil=>intro _ h;cases h
  |cons b r ih=>
   intro hn hm
   rw [List.nodup_cons] at hn
   by_cases hb:b=i
   ·subst hb
    have e1:(listed.setIfInBounds b true).getD b true=true:=by simp [hs,hi]
    have e2:(r.filter fun k=>!(listed.setIfInBounds b true).getD k true)=r.filter fun k=>!listed.getD k true:=List.filter_congr fun k hk=>by rw [getD_set_ne true (fun e:b=k=>hn.1 (e▸hk))]
    rw [List.filter_cons_of_neg (by rw [e1];decide),List.filter_cons_of_pos (by rw [h];rfl),e2,List.length_cons]
    exact Nat.lt_succ_self _
   ·have hr:=ih hn.2 ((List.mem_cons.1 hm).resolve_left (fun e=>hb e.symm))
    have e1:(listed.setIfInBounds i true).getD b true=listed.getD b true:=getD_set_ne true (fun e=>hb e.symm)
    by_cases hv:listed.getD b true=true
    ·rw [List.filter_cons_of_neg (by rw [e1,hv];decide),List.filter_cons_of_neg (by rw [hv];decide)]
     exact hr
    ·rw [List.filter_cons_of_pos (by rw [e1];simpa using hv),List.filter_cons_of_pos (by simpa using hv),List.length_cons,List.length_cons]
     omega
 exact key _ List.nodup_range (List.mem_range.2 hi)
theorem all_listed {listed:Array Bool} (hf:forwardB ops=true) (hr:Region.ready .any ops listed=[]):∀i,i<ops.size→listed.getD i true=true:=by
 intro i
 induction i using Nat.strongRecOn with
 |ind i ih=>
  intro hi
  by_cases hu:listed.getD i true=true
  ·exact hu
  ·have hm:i∈Region.ready .any ops listed:=by
    refine mem_ready.2 ⟨by simpa using hu,ops[i],by simp [hi],fun e he hb=>?_⟩
    have hfi:=List.all_eq_true.1 hf i (List.mem_range.2 hi)
    have hk:e.on∈depsOf ops[i]:=List.mem_map.2 ⟨e,List.mem_filter.2 ⟨by simpa using he,hb⟩,rfl⟩
    have hlt:e.on<i:=by
     have h:=hfi
     simp [hi] at h
     exact h _ hk
    have h1:=ih e.on hlt (by omega)
    have hsz:e.on<listed.size:=by
     rcases Nat.lt_or_ge e.on listed.size with h'|h'
     ·exact h'
     ·exfalso
      have h2:i∈Region.ready .any ops listed∨True:=.inr trivial
      have h3:listed.getD i true=true:=by simp [Array.getElem?_eq_none (show listed.size≤i by omega)]
      exact hu h3
    simp only [Array.getD,hsz,dif_pos] at h1 ⊢
    exact h1
   rw [hr] at hm
   cases hm
theorem wpAny_of_I (hf:forwardB ops=true) (hs:∀i,i<ops.size→StepI P ops Q I i) (hd:∀(listed:Array Bool) (a:Act) (w:World),listed.size=ops.size→I listed a w→(∀i,i<ops.size→listed.getD i true=true)→Q .normal a w) :
  ∀(fuel:Nat) (listed:Array Bool) (a:Act) (w:World),listed.size=ops.size→openN ops.size listed≤fuel→I listed a w→wpAny P .any ops Q fuel listed a w
 |0,listed,a,w,hz,ho,hI=>by
  have hall:∀i,i<ops.size→listed.getD i true=true:=fun i hi=>by
   rcases Bool.eq_false_or_eq_true (listed.getD i true) with h|h
   ·exact h
   ·exact absurd (openN_set hi hz h) (by omega)
  refine ⟨List.eq_nil_iff_forall_not_mem.2 fun i hi=>?_,hd listed a w hz hI hall⟩
  obtain ⟨h1,o,ho2,_⟩:=mem_ready.1 hi
  have hlt:i<ops.size:=by
   rcases Nat.lt_or_ge i ops.size with h|h
   ·exact h
   ·rw [Array.getElem?_eq_none h] at ho2;cases ho2
  rw [hall i hlt] at h1
  cases h1
 |fuel+1,listed,a,w,hz,ho,hI=>by
  refine ⟨fun hr=>hd listed a w hz hI (all_listed hf hr),fun i hi=>?_⟩
  obtain ⟨h1,o,ho2,hall⟩:=mem_ready.1 hi
  have hlt:i<ops.size:=by
   rcases Nat.lt_or_ge i ops.size with h|h
   ·exact h
   ·rw [Array.getElem?_eq_none h] at ho2;cases ho2
  refine wpOp_mono (fun a' w' h=>wpAny_of_I hf hs hd fuel _ a' w' (by simpa using hz) (by have:=openN_set hlt hz h1;omega) h) (hs i hlt listed a w hz hI h1 fun o' ho' k hk=>?_)
  obtain rfl:o=o':=by rw [ho2] at ho';injection ho'
  obtain ⟨e,he,rfl⟩:=List.mem_map.1 hk
  obtain ⟨he1,he2⟩:=List.mem_filter.1 he
  exact hall e (by simpa using he1) he2
theorem wp_region_I {id:Nat} {a:Act} {w:World} (hm:P.follows .mixedOrders=true) (I:Array Bool→Act→World→Prop) (n:Nat) (hn:ops.size=n) (hf:forwardB ops=true)
  (h0:(∀k,(Array.replicate n false).getD k false=true→False)→I (Array.replicate n false) a w.drew) (hs:StepsI P ops Q I (List.range n)) (hd:∀(listed:Array Bool) (a:Act) (w:World),I listed a w→(∀i,i<n→listed.getD i false=true)→Q .normal a w):(Code.region id ops true).wp P Q a w:=by
 subst hn
 refine wp_region_any hm (wpAny_of_I hf (fun i hi=>hs i (List.mem_range.2 hi)) (fun listed a w hz hI hall=>hd listed a w hI fun i hi=>?_) ops.size _ a w.drew (by simp) ?_ (h0 fun k hk=>?_))
 ·have h:=hall i hi
  have hl:i<listed.size:=by rw [hz];exact hi
  simp only [Array.getD,hl,dif_pos] at h ⊢
  exact h
 ·unfold openN
  exact Nat.le_trans (List.length_filter_le _ _) (by simp)
 ·rcases Nat.lt_or_ge k ops.size with h|h
  ·simp [h] at hk
  ·simp [h] at hk
end
end Go.Proofs.YtmignlclfbaifaaGreat
