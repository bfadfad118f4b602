/- What the frames of this seat's statements share: the row's last step; an argument of numbers, as it lies in memory. -/
import Derived.Test.YtmignlclfbaifaaGreatRows
import Derived.Test.YtmignlclfbaifaaGreatPtGen
import Derived.WalkKit
import Derived.ProofKit
import Derived.OpenShut
import Derived.Deep.Slices
import Derived.Carry
import Derived.ChangeOld
import Derived.ChangeSlices
import Derived.SizedLaws
namespace Go.Proofs.YtmignlclfbaifaaGreat
open Go.ChangeShapes Go.WideShapes Go.ChangeAt Go.RowKit
theorem own_:ownKnob Tryz.prog.godebug=none:=by kernel_rfl
section
variable {H:Type} {enc:TypeId × Value→H} {P:Program}
theorem post_law {f:Func} {s:ChangeSpec} {apart fresh handsOn:Bool} {W W':World} {args:Array Value} {v:Value} {ds:List (DataW H)} {ps:List MemPlace}
  (hW:DataW.Whole enc P f.params.toList s.vars apart W args.toList ds [] ps)
  (hres:∀(b:Nat) (sp:Nat→Bool) (hd:Bool),DataW.TrodAll enc P W' b sp hd f.resultTypes.toList (v.resultList f.resultTypes.size) (s.fn H (ds++[])).results [])
  (hargs:DataW.TrodAll enc P W' 0 (fun b=>decide (b<W.heap.size)) true f.params.toList args.toList (s.fn H (ds++[])).args ps)
  (hvars:DataW.TrodVars enc P W' (fun b=>decide (b<W.heap.size)) s.vars (s.fn H (ds++[])).vars [])
  (hb:Below W.heap.size W W'):s.post enc P f apart fresh handsOn false W args v W':=
 ⟨ds,[],ps,[],ps,[],hW,hres _ _ _,hargs,hvars,World.keptBut_mono (fun p hp=>⟨hp,Or.inr (Or.inl hp)⟩) (hb.frame (·∈ps)),fun h=>by cases h⟩
end
section
variable {H:Type} {enc:TypeId × Value→H} {P:Program} {w:World} {spare:Nat→Bool} {held:Bool}
theorem slr_of_trod {α:Type} (R:List Value→α→Prop) {t e sz:Nat} (ht:P.underlying t=some (.slice e)) (hs:P.cellsOf e=sz) (hsz:0<sz)
  (hR:∀fuel cs x,DataW.trod enc P w 0 spare held fuel e cs=some x→∃y,R cs y) {fuel:Nat} {cs:List Value} {x:DataW H × List MemPlace} (h:DataW.trod enc P w 0 spare held fuel t cs=some x) :
  ∃v l,cs=[v]∧SlR w (· < w.heap.size) sz R v l:=by
 rcases Deep.open_slice ht h with ⟨h0,_⟩|⟨a,len,cap,m,n,D,Pl,hc,_,hl,hm,hmm,_,hel⟩
 ·exact ⟨_,[],h0,SlR.nil_ _ _ _ _⟩
 ·have hlm:len≤m:=by rw [hmm];split <;> omega
  obtain ⟨l,hll,hq⟩:=list_of (n:=len) (Q:=fun i y=>∃cs',w.cells? 0 (a.add (i*sz)) sz=some cs'∧R cs' y) fun i hi=>by
   obtain ⟨cs',h1,h2⟩:=hel i (by omega)
   rw [hs] at h1
   obtain ⟨y,hy⟩:=hR _ _ _ h2
   exact ⟨y,cs',h1,hy⟩
  refine ⟨.slice (some a) len cap,l,hc,some a,cap,by rw [hll],by omega,hm,?_⟩
  by_cases h0:len=0
  ·exact .inl (List.eq_nil_of_length_eq_zero (by omega))
  ·obtain ⟨b,off,spot⟩:=a
   have hcell:∀(i:Nat) (hi:i<l.length),∃cs',cs'.length=sz∧R cs' l[i]∧∀j,j<sz→w.cell? ((⟨b,off,spot⟩:Addr).add (i*sz+j))=cs'[j]?:=fun i hi=>by
    obtain ⟨cs',h1,h2⟩:=hq i hi
    obtain ⟨_,h3,h4⟩:=World.cells?_some h1
    exact ⟨cs',h3,h2,fun j hj=>by rw [←Deep.add_add];exact h4 j hj⟩
   have hsp:spot=none:=by
    obtain ⟨cs',h1,_,h3⟩:=hcell 0 (by omega)
    have h4:=h3 0 hsz
    rw [List.getElem?_eq_getElem (by omega)] at h4
    simpa [Addr.add] using World.cell?_spot h4
   subst hsp
   have hadd:∀k,(⟨b,off,none⟩:Addr).add k=⟨b,off+k,none⟩:=fun k=>by unfold Addr.add;split <;> simp_all
   refine .inr ⟨b,off,rfl,?_,fun i hi=>?_⟩
   ·obtain ⟨cs',h1,_,h3⟩:=hcell 0 (by omega)
    have h4:=h3 0 hsz
    rw [List.getElem?_eq_getElem (by omega),hadd] at h4
    exact World.block_lt_of_cell? w _ h4
   ·obtain ⟨cs',h1,h2,h3⟩:=hcell i hi
    refine ⟨cs',h1,h2,fun j hj=>?_⟩
    have h4:=h3 j (by omega)
    rw [hadd,List.getElem?_eq_getElem hj] at h4
    rw [Nat.add_assoc]
    exact h4
theorem slr_all {α:Type} {ok:Nat→Prop} {sz:Nat} {R:List Value→α→Prop} {v:Value} {l:List α} (h:SlR w ok sz R v l) {Q:α→Prop} (hq:∀cs x,R cs x→Q x):∀x∈l,Q x:=fun x hx=>by
 obtain ⟨A,c,_,_,_,h3⟩:=h
 rcases h3 with rfl|⟨b,off,_,_,hi⟩
 ·simp at hx
 ·obtain ⟨i,hl,rfl⟩:=List.getElem_of_mem hx
  obtain ⟨cs,_,hr,_⟩:=hi i hl
  exact hq cs _ hr
end
section
variable {H:Type} {enc:TypeId × Value→H} {w:World} {spare:Nat→Bool} {held:Bool}
theorem open_ints_sl {v:Value} {d:DataW H} {ps:List MemPlace} (h:DataW.Trod enc Tryz.prog w 0 spare held 22 v d ps) (hv:∃A n c,v=.slice A n c) :
  ∃l:List Int,SlR w (· < w.heap.size) 1 RInt v l∧((d=.nil∧l=[])∨∃es sp,d=.slice es sp∧es.length=l.length):=by
 obtain ⟨fuel,h⟩:=h
 obtain ⟨A,n,c,rfl⟩:=hv
 obtain ⟨u,l,e,hs⟩:=slr_of_trod RInt Tryz.underlying22 (show Tryz.prog.cellsOf 3=1 by kernel_rfl) (by omega) (fun _ _ _ h=>by
  obtain ⟨a,e0,_,_⟩:=DataW.trod_int Tryz.underlying3 h
  exact ⟨a,e0⟩) h
 have e':Value.slice A n c=u:=by simpa [Value.cells] using e
 subst e'
 refine ⟨l,hs,?_⟩
 obtain ⟨A',c',hv',_,_⟩:=hs.val
 injection hv' with _ hn _
 rcases ChangeShapes.open_ints Tryz.underlying22 Tryz.underlying3 (show Tryz.prog.cellsOf 3=1 by kernel_rfl) h with ⟨hcs,hx⟩|⟨a,len,cap,zs,hcs,_,hl,hm,hz,hx,_,_⟩
 ·have e2:Value.slice A n c=.slice none 0 0:=by simpa [Value.cells] using hcs
  injection e2 with _ h0 _
  simp only [Prod.mk.injEq] at hx
  exact .inl ⟨hx.1,List.eq_nil_of_length_eq_zero (by omega)⟩
 ·have e2:Value.slice A n c=.slice (some a) len cap:=by simpa [Value.cells] using hcs
  injection e2 with _ h0 _
  simp only [Prod.mk.injEq] at hx
  refine .inr ⟨_,_,hx.1,?_⟩
  have hzl:len≤zs.length:=by rw [hz];split <;> omega
  simp [lits]
  omega
end
section
variable {H:Type} {enc:TypeId × Value→H} {w:World} {spare:Nat→Bool} {held:Bool}
theorem open_ints_I {v:Value} {d:DataW H} {ps:List MemPlace} (h:DataW.Trod enc Tryz.prog w 0 spare held 22 v d ps) (hv:∃A n c,v=.slice A n c) :
  ∃l:List Int,(∀x∈l,I64 x)∧SlR w (· < w.heap.size) 1 RInt v l∧((d=.nil∧l=[])∨∃es sp,d=.slice es sp∧es.length=l.length):=by
 obtain ⟨l0,hsl0,hd⟩:=open_ints_sl h hv
 obtain ⟨fuel,h⟩:=h
 obtain ⟨A,n,c,rfl⟩:=hv
 obtain ⟨u,l,e,hs⟩:=slr_of_trod (fun cs (y:Int)=>RInt cs y∧I64 y) Tryz.underlying22 (show Tryz.prog.cellsOf 3=1 by kernel_rfl) (by omega) (fun _ _ _ h=>by
  obtain ⟨a,e0,_,hw⟩:=DataW.trod_int Tryz.underlying3 h
  exact ⟨a,e0,i64_of_wf hw⟩) h
 have e':Value.slice A n c=u:=by simpa [Value.cells] using e
 subst e'
 have hs':SlR w (· < w.heap.size) 1 RInt (.slice A n c) l:=hs.imp (fun _ h=>h) (Keeps.refl _ _) (fun _ _ _ h=>h.1)
 refine ⟨l,slr_all hs (fun _ _ h=>h.2),hs',?_⟩
 obtain ⟨A',c',hv',_,_⟩:=hs'.val
 injection hv' with _ hn _
 obtain ⟨A0,c0,hv0,_,_⟩:=hsl0.val
 injection hv0 with _ hn0 _
 rcases hd with ⟨h1,h2⟩|⟨es,sp,h1,h2⟩
 ·subst h2
  exact .inl ⟨h1,List.eq_nil_of_length_eq_zero (by rw [←hn,hn0];rfl)⟩
 ·exact .inr ⟨es,sp,h1,by rw [h2,←hn0,hn]⟩
end
end Go.Proofs.YtmignlclfbaifaaGreat
