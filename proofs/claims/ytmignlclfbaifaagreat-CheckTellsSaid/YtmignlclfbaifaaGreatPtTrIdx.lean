/- slices.IndexFunc and slices.ContainsFunc at the rows of trees, whatever the function value. Printed by wip/gen_tridx.py. -/
import Derived.Test.YtmignlclfbaifaaGreatPtTrBase
import Derived.Test.YtmignlclfbaifaaGreatPtGen
namespace Go.Proofs.YtmignlclfbaifaaGreat
open Go.RowKit
theorem findP_lt {α:Type} {q:α→Bool}:∀{l:List α},(∀x∈l,q x=false)∨∃(i:Nat) (hi:i<l.length),q l[i]=true∧∀(j:Nat) (hj:j<l.length),j<i→q l[j]=false
 |[]=>.inl fun _ h=>by cases h
 |x :: l=>by
  cases hx:q x with
  |true=>exact .inr ⟨0,Nat.succ_pos _,hx,fun j _ h=>absurd h (Nat.not_lt_zero _)⟩
  |false=>
   rcases findP_lt (q:=q) (l:=l) with h|⟨i,hi,h1,h2⟩
   ·exact .inl fun y hy=>by
     rcases List.mem_cons.1 hy with rfl|hy
     ·exact hx
     ·exact h y hy
   ·refine .inr ⟨i+1,by simpa using hi,h1,fun j hj hji=>?_⟩
    cases j with
    |zero=>exact hx
    |succ j=>exact h2 j (by simpa using hj) (by omega)
theorem findP_nonneg {α:Type} (q:α→Bool) (l:List α):decide (0≤findP q l)=l.any q:=by
 rcases findP_lt (q:=q) (l:=l) with h|⟨i,hi,h1,h2⟩
 ·rw [findP_none h,show l.any q=false from List.any_eq_false.2 fun x hx=>by rw [h x hx];decide];rfl
 ·rw [findP_at hi h1 h2,show l.any q=true from List.any_eq_true.2 ⟨_,List.getElem_mem hi,h1⟩]
  exact dT (by omega)
section
set_option maxHeartbeats 1000000
def Pred_str (g:Nat) (lb:Array Value) (p:ByteArray→Bool) (l:List (ByteArray)) (w:World):Prop:=
 ∀(W:World) (cs:List Value) (x:ByteArray),x∈l→RStr cs x→Below w.heap.size w W→Calls Tryz.prog g (#[(match cs with|[c0]=>c0|_=>undef)]++lb) W fun e w'=>e=.returned (.bool (p x))∧Below w.heap.size w w'
theorem idx_fn1 (u:Value) (l:List (ByteArray)) (v:Value) (p:ByteArray→Bool) (w:World) (hv:SlR w (· < w.heap.size) 1 RStr v l) (hp:Pred_str 51 #[u] p l w) :
  Calls Tryz.prog 70 #[v,.func (.func 51) #[] #[u]] w fun e w'=>e=.returned (.int .i64 (findP p l))∧Below w.heap.size w w':=by
 obtain ⟨A,c,hvv,hlc,hcm⟩:=hv.val
 have HV:=Ω hv
 clear hv
 subst hvv
 have hlen:=Nat.le_trans hlc hcm
 unfold maxLen at hlen
 go_enter Tryz.func70,Tryz.ntmps70
 go_wp2
 go_loopw [5,8] (fun _ i wr=>∃k:Nat,k≤l.length∧i=.int .i64 k∧(∀j (h:j<l.length),j<k→p l[j]=false)∧Below w.heap.size w wr) (fun _ i _=>l.length-(intOf i).toNat)
 case atStart=>exact ⟨0,by omega,rfl,fun j _ h=>by omega,Below.refl _ _⟩
 case round=>
  obtain ⟨k,hk,rfl,hno,hb⟩:=hrel
  have HNO:=Ω hno
  clear hno
  by_cases hlt:k<l.length
  ·have d1:decide ((k:Int)<(l.length:Int))=true:=dT (by omega)
   obtain ⟨b,off,c',hform,_,_,hbl,hel⟩:=HV.out.form (by omega)
   obtain ⟨cs,hcl,hcs,hcell⟩:=hel k hlt
   obtain ⟨rfl,rfl⟩:A=some ⟨b,off,none⟩∧c=c':=by injection hform with h1 _ h2;exact ⟨h1,h2⟩
   obtain ⟨x,hx⟩:∃x,x=l[k]:=⟨_,rfl⟩
   have hxm:x∈l:=by rw [hx];exact List.getElem_mem _
   rw [←hx] at hcs
   have hcs2:=hcs
   have HC:=hp wr cs x hxm hcs2 hb
   obtain rfl:cs=[.string x]:=hcs
   have hcw:=hcell.keep (hb.block b hbl)
   have i0:wr.cell? ⟨b,off+k,none⟩=some (.string x):=by have h:=hcw.at_ (j:=0) rfl;simpa using h
   have HC2:Hid (Calls Tryz.prog 51 #[.string x,u] wr fun e w'=>e=.returned (.bool (p x))∧Below w.heap.size w w'):=Ω (by simpa [exprCells,stmtCells] using HC)
   have HX:=Ω hx
   clear hcell hcw hel hform hcs2 HC hx
   cases hq:p x with
   |true=>
    rw [hq] at HC2
    go_wp2_with (go_at_call 51;refine HC2.out.mono ?_;rintro e w' ⟨rfl,hb'⟩)
    go_ret
    refine ⟨?_,hb'⟩
    rw [findP_at hlt (by rw [←HX.out];exact hq) HNO.out]
    rfl
   |false=>
    rw [hq] at HC2
    go_wp2_with (go_at_call 51;refine HC2.out.mono ?_;rintro e w' ⟨rfl,hb'⟩)
    go_roundw
    case rel=>
     refine ⟨k+1,by omega,by go_num,fun j h hj=>?_,hb'⟩
     by_cases e:j=k
     ·subst e;rw [←HX.out];exact hq
     ·exact HNO.out j h (by omega)
    case measure=>simp [intOf];omega
  ·have d1:decide ((k:Int)<(l.length:Int))=false:=dF (by omega)
   go_wp2
   go_ret
   refine ⟨?_,hb⟩
   rw [findP_none (q:=p) (l:=l) (fun x hx=>by
    obtain ⟨j,hj,rfl⟩:=List.getElem_of_mem hx
    exact HNO.out j hj (by omega))]
   rfl
theorem con_fn1 (u:Value) (l:List (ByteArray)) (v:Value) (p:ByteArray→Bool) (w:World) (hv:SlR w (· < w.heap.size) 1 RStr v l) (hp:Pred_str 51 #[u] p l w) :
  Calls Tryz.prog 50 #[v,.func (.func 51) #[] #[u]] w fun e w'=>e=.returned (.bool (l.any p))∧Below w.heap.size w w':=by
 have h:=idx_fn1 u l v p w hv hp
 rw [←findP_nonneg]
 go_enter Tryz.func50,Tryz.ntmps50
 go_wp2_with (go_at_call 70;refine h.mono ?_;rintro e w' ⟨rfl,hb'⟩)
 go_ret
 exact ⟨rfl,hb'⟩
theorem idx_named1 (l:List (ByteArray)) (v:Value) (p:ByteArray→Bool) (w:World) (hv:SlR w (· < w.heap.size) 1 RStr v l) (hp:Pred_str 61 #[] p l w) :
  Calls Tryz.prog 70 #[v,.func (.func 61) #[] #[]] w fun e w'=>e=.returned (.int .i64 (findP p l))∧Below w.heap.size w w':=by
 obtain ⟨A,c,hvv,hlc,hcm⟩:=hv.val
 have HV:=Ω hv
 clear hv
 subst hvv
 have hlen:=Nat.le_trans hlc hcm
 unfold maxLen at hlen
 go_enter Tryz.func70,Tryz.ntmps70
 go_wp2
 go_loopw [5,8] (fun _ i wr=>∃k:Nat,k≤l.length∧i=.int .i64 k∧(∀j (h:j<l.length),j<k→p l[j]=false)∧Below w.heap.size w wr) (fun _ i _=>l.length-(intOf i).toNat)
 case atStart=>exact ⟨0,by omega,rfl,fun j _ h=>by omega,Below.refl _ _⟩
 case round=>
  obtain ⟨k,hk,rfl,hno,hb⟩:=hrel
  have HNO:=Ω hno
  clear hno
  by_cases hlt:k<l.length
  ·have d1:decide ((k:Int)<(l.length:Int))=true:=dT (by omega)
   obtain ⟨b,off,c',hform,_,_,hbl,hel⟩:=HV.out.form (by omega)
   obtain ⟨cs,hcl,hcs,hcell⟩:=hel k hlt
   obtain ⟨rfl,rfl⟩:A=some ⟨b,off,none⟩∧c=c':=by injection hform with h1 _ h2;exact ⟨h1,h2⟩
   obtain ⟨x,hx⟩:∃x,x=l[k]:=⟨_,rfl⟩
   have hxm:x∈l:=by rw [hx];exact List.getElem_mem _
   rw [←hx] at hcs
   have hcs2:=hcs
   have HC:=hp wr cs x hxm hcs2 hb
   obtain rfl:cs=[.string x]:=hcs
   have hcw:=hcell.keep (hb.block b hbl)
   have i0:wr.cell? ⟨b,off+k,none⟩=some (.string x):=by have h:=hcw.at_ (j:=0) rfl;simpa using h
   have HC2:Hid (Calls Tryz.prog 61 #[.string x] wr fun e w'=>e=.returned (.bool (p x))∧Below w.heap.size w w'):=Ω (by simpa [exprCells,stmtCells] using HC)
   have HX:=Ω hx
   clear hcell hcw hel hform hcs2 HC hx
   cases hq:p x with
   |true=>
    rw [hq] at HC2
    go_wp2_with (go_at_call 61;refine HC2.out.mono ?_;rintro e w' ⟨rfl,hb'⟩)
    go_ret
    refine ⟨?_,hb'⟩
    rw [findP_at hlt (by rw [←HX.out];exact hq) HNO.out]
    rfl
   |false=>
    rw [hq] at HC2
    go_wp2_with (go_at_call 61;refine HC2.out.mono ?_;rintro e w' ⟨rfl,hb'⟩)
    go_roundw
    case rel=>
     refine ⟨k+1,by omega,by go_num,fun j h hj=>?_,hb'⟩
     by_cases e:j=k
     ·subst e;rw [←HX.out];exact hq
     ·exact HNO.out j h (by omega)
    case measure=>simp [intOf];omega
  ·have d1:decide ((k:Int)<(l.length:Int))=false:=dF (by omega)
   go_wp2
   go_ret
   refine ⟨?_,hb⟩
   rw [findP_none (q:=p) (l:=l) (fun x hx=>by
    obtain ⟨j,hj,rfl⟩:=List.getElem_of_mem hx
    exact HNO.out j hj (by omega))]
   rfl
theorem con_named1 (l:List (ByteArray)) (v:Value) (p:ByteArray→Bool) (w:World) (hv:SlR w (· < w.heap.size) 1 RStr v l) (hp:Pred_str 61 #[] p l w) :
  Calls Tryz.prog 50 #[v,.func (.func 61) #[] #[]] w fun e w'=>e=.returned (.bool (l.any p))∧Below w.heap.size w w':=by
 have h:=idx_named1 l v p w hv hp
 rw [←findP_nonneg]
 go_enter Tryz.func50,Tryz.ntmps50
 go_wp2_with (go_at_call 70;refine h.mono ?_;rintro e w' ⟨rfl,hb'⟩)
 go_ret
 exact ⟨rfl,hb'⟩
def Pred_arr (g:Nat) (lb:Array Value) (p:ByteArray × Int→Bool) (l:List (ByteArray × Int)) (w:World):Prop:=
 ∀(W:World) (cs:List Value) (x:ByteArray × Int),x∈l→RArr cs x→Below w.heap.size w W→Calls Tryz.prog g (#[(match cs with|[c0,c1]=>.agg #[c0,c1]|_=>undef)]++lb) W fun e w'=>e=.returned (.bool (p x))∧Below w.heap.size w w'
theorem idx_arr1 (u:Value) (l:List (ByteArray × Int)) (v:Value) (p:ByteArray × Int→Bool) (w:World) (hv:SlR w (· < w.heap.size) 2 RArr v l) (hp:Pred_arr 38 #[u] p l w) :
  Calls Tryz.prog 37 #[v,.func (.func 38) #[] #[u]] w fun e w'=>e=.returned (.int .i64 (findP p l))∧Below w.heap.size w w':=by
 obtain ⟨A,c,hvv,hlc,hcm⟩:=hv.val
 have HV:=Ω hv
 clear hv
 subst hvv
 have hlen:=Nat.le_trans hlc hcm
 unfold maxLen at hlen
 go_enter Tryz.func37,Tryz.ntmps37
 go_wp2
 go_loopw [5,8] (fun _ i wr=>∃k:Nat,k≤l.length∧i=.int .i64 k∧(∀j (h:j<l.length),j<k→p l[j]=false)∧Below w.heap.size w wr) (fun _ i _=>l.length-(intOf i).toNat)
 case atStart=>exact ⟨0,by omega,rfl,fun j _ h=>by omega,Below.refl _ _⟩
 case round=>
  obtain ⟨k,hk,rfl,hno,hb⟩:=hrel
  have HNO:=Ω hno
  clear hno
  by_cases hlt:k<l.length
  ·have d1:decide ((k:Int)<(l.length:Int))=true:=dT (by omega)
   obtain ⟨b,off,c',hform,_,_,hbl,hel⟩:=HV.out.form (by omega)
   obtain ⟨cs,hcl,hcs,hcell⟩:=hel k hlt
   obtain ⟨rfl,rfl⟩:A=some ⟨b,off,none⟩∧c=c':=by injection hform with h1 _ h2;exact ⟨h1,h2⟩
   obtain ⟨x,hx⟩:∃x,x=l[k]:=⟨_,rfl⟩
   have hxm:x∈l:=by rw [hx];exact List.getElem_mem _
   rw [←hx] at hcs
   have hcs2:=hcs
   have HC:=hp wr cs x hxm hcs2 hb
   obtain rfl:cs=[.string x.1,.int .i64 x.2]:=hcs
   have hcw:=hcell.keep (hb.block b hbl)
   have i0:wr.cell? ⟨b,off+k*2,none⟩=some (.string x.1):=by have h:=hcw.at_ (j:=0) rfl;simpa using h
   have i1:wr.cell? ⟨b,off+k*2+1,none⟩=some (.int .i64 x.2):=hcw.at_ (j:=1) rfl
   have HC2:Hid (Calls Tryz.prog 38 #[.agg #[.string x.1,.int .i64 x.2],u] wr fun e w'=>e=.returned (.bool (p x))∧Below w.heap.size w w'):=Ω (by simpa [exprCells,stmtCells] using HC)
   have HX:=Ω hx
   clear hcell hcw hel hform hcs2 HC hx
   cases hq:p x with
   |true=>
    rw [hq] at HC2
    go_wp2_with (go_at_call 38;refine HC2.out.mono ?_;rintro e w' ⟨rfl,hb'⟩)
    go_ret
    refine ⟨?_,hb'⟩
    rw [findP_at hlt (by rw [←HX.out];exact hq) HNO.out]
    rfl
   |false=>
    rw [hq] at HC2
    go_wp2_with (go_at_call 38;refine HC2.out.mono ?_;rintro e w' ⟨rfl,hb'⟩)
    go_roundw
    case rel=>
     refine ⟨k+1,by omega,by go_num,fun j h hj=>?_,hb'⟩
     by_cases e:j=k
     ·subst e;rw [←HX.out];exact hq
     ·exact HNO.out j h (by omega)
    case measure=>simp [intOf];omega
  ·have d1:decide ((k:Int)<(l.length:Int))=false:=dF (by omega)
   go_wp2
   go_ret
   refine ⟨?_,hb⟩
   rw [findP_none (q:=p) (l:=l) (fun x hx=>by
    obtain ⟨j,hj,rfl⟩:=List.getElem_of_mem hx
    exact HNO.out j hj (by omega))]
   rfl
def Pred_fun (d:Nat) (g:Nat) (lb:Array Value) (p:LFunc→Bool) (l:List (LFunc)) (w:World):Prop:=
 ∀(W:World) (cs:List Value) (x:LFunc),x∈l→RFunc d W (· < W.heap.size) cs x→Below w.heap.size w W→Calls Tryz.prog g (#[(match cs with|[c0,c1,c2,c3]=>.agg #[c0,c1,c2,c3]|_=>undef)]++lb) W fun e w'=>e=.returned (.bool (p x))∧Below w.heap.size w w'
theorem idx_plc1 (d:Nat) (u:Value) (l:List (LFunc)) (v:Value) (p:LFunc→Bool) (w:World) (hv:SlR w (· < w.heap.size) 4 (RFunc d w (· < w.heap.size)) v l) (hp:Pred_fun d 36 #[u] p l w) :
  Calls Tryz.prog 35 #[v,.func (.func 36) #[] #[u]] w fun e w'=>e=.returned (.int .i64 (findP p l))∧Below w.heap.size w w':=by
 obtain ⟨A,c,hvv,hlc,hcm⟩:=hv.val
 have HV:=Ω hv
 clear hv
 subst hvv
 have hlen:=Nat.le_trans hlc hcm
 unfold maxLen at hlen
 go_enter Tryz.func35,Tryz.ntmps35
 go_wp2
 go_loopw [5,8] (fun _ i wr=>∃k:Nat,k≤l.length∧i=.int .i64 k∧(∀j (h:j<l.length),j<k→p l[j]=false)∧Below w.heap.size w wr) (fun _ i _=>l.length-(intOf i).toNat)
 case atStart=>exact ⟨0,by omega,rfl,fun j _ h=>by omega,Below.refl _ _⟩
 case round=>
  obtain ⟨k,hk,rfl,hno,hb⟩:=hrel
  have HNO:=Ω hno
  clear hno
  by_cases hlt:k<l.length
  ·have d1:decide ((k:Int)<(l.length:Int))=true:=dT (by omega)
   obtain ⟨b,off,c',hform,_,_,hbl,hel⟩:=HV.out.form (by omega)
   obtain ⟨cs,hcl,hcs,hcell⟩:=hel k hlt
   obtain ⟨rfl,rfl⟩:A=some ⟨b,off,none⟩∧c=c':=by injection hform with h1 _ h2;exact ⟨h1,h2⟩
   obtain ⟨x,hx⟩:∃x,x=l[k]:=⟨_,rfl⟩
   have hxm:x∈l:=by rw [hx];exact List.getElem_mem _
   rw [←hx] at hcs
   have hcs2:=hcs.imp (w':=wr) (ok':=(· < wr.heap.size)) (fun b h=>ltle h hb.size) (fun b h=>hb.block b h)
   have HC:=hp wr cs x hxm hcs2 hb
   obtain ⟨vp,vl,vb,rfl,hp1,hp2,hp3⟩:=hcs
   have hcw:=hcell.keep (hb.block b hbl)
   have i0:wr.cell? ⟨b,off+k*4,none⟩=some (.string x.name):=by have h:=hcw.at_ (j:=0) rfl;simpa using h
   have i1:wr.cell? ⟨b,off+k*4+1,none⟩=some (vp):=hcw.at_ (j:=1) rfl
   have i2:wr.cell? ⟨b,off+k*4+2,none⟩=some (vl):=hcw.at_ (j:=2) rfl
   have i3:wr.cell? ⟨b,off+k*4+3,none⟩=some (vb):=hcw.at_ (j:=3) rfl
   have HC2:Hid (Calls Tryz.prog 36 #[.agg #[.string x.name,vp,vl,vb],u] wr fun e w'=>e=.returned (.bool (p x))∧Below w.heap.size w w'):=Ω (by simpa [exprCells,stmtCells] using HC)
   have HX:=Ω hx
   clear hcell hcw hel hform hcs2 HC hx
   cases hq:p x with
   |true=>
    rw [hq] at HC2
    go_wp2_with (go_at_call 36;refine HC2.out.mono ?_;rintro e w' ⟨rfl,hb'⟩)
    go_ret
    refine ⟨?_,hb'⟩
    rw [findP_at hlt (by rw [←HX.out];exact hq) HNO.out]
    rfl
   |false=>
    rw [hq] at HC2
    go_wp2_with (go_at_call 36;refine HC2.out.mono ?_;rintro e w' ⟨rfl,hb'⟩)
    go_roundw
    case rel=>
     refine ⟨k+1,by omega,by go_num,fun j h hj=>?_,hb'⟩
     by_cases e:j=k
     ·subst e;rw [←HX.out];exact hq
     ·exact HNO.out j h (by omega)
    case measure=>simp [intOf];omega
  ·have d1:decide ((k:Int)<(l.length:Int))=false:=dF (by omega)
   go_wp2
   go_ret
   refine ⟨?_,hb⟩
   rw [findP_none (q:=p) (l:=l) (fun x hx=>by
    obtain ⟨j,hj,rfl⟩:=List.getElem_of_mem hx
    exact HNO.out j hj (by omega))]
   rfl
def Pred_exp (d:Nat) (g:Nat) (lb:Array Value) (p:LExpr→Bool) (l:List (LExpr)) (w:World):Prop:=
 ∀(W:World) (cs:List Value) (x:LExpr),x∈l→RExpr (d+1) W (· < W.heap.size) cs x→Below w.heap.size w W→Calls Tryz.prog g (#[(match cs with|[c0,c1,c2,c3,c4]=>.agg #[c0,c1,c2,c3,c4]|_=>undef)]++lb) W fun e w'=>e=.returned (.bool (p x))∧Below w.heap.size w w'
theorem idx_deep1 (d:Nat) (u:Value) (l:List (LExpr)) (v:Value) (p:LExpr→Bool) (w:World) (hv:SlR w (· < w.heap.size) 5 (RExpr (d+1) w (· < w.heap.size)) v l) (hp:Pred_exp d 112 #[u] p l w) :
  Calls Tryz.prog 97 #[v,.func (.func 112) #[] #[u]] w fun e w'=>e=.returned (.int .i64 (findP p l))∧Below w.heap.size w w':=by
 obtain ⟨A,c,hvv,hlc,hcm⟩:=hv.val
 have HV:=Ω hv
 clear hv
 subst hvv
 have hlen:=Nat.le_trans hlc hcm
 unfold maxLen at hlen
 go_enter Tryz.func97,Tryz.ntmps97
 go_wp2
 go_loopw [5,8] (fun _ i wr=>∃k:Nat,k≤l.length∧i=.int .i64 k∧(∀j (h:j<l.length),j<k→p l[j]=false)∧Below w.heap.size w wr) (fun _ i _=>l.length-(intOf i).toNat)
 case atStart=>exact ⟨0,by omega,rfl,fun j _ h=>by omega,Below.refl _ _⟩
 case round=>
  obtain ⟨k,hk,rfl,hno,hb⟩:=hrel
  have HNO:=Ω hno
  clear hno
  by_cases hlt:k<l.length
  ·have d1:decide ((k:Int)<(l.length:Int))=true:=dT (by omega)
   obtain ⟨b,off,c',hform,_,_,hbl,hel⟩:=HV.out.form (by omega)
   obtain ⟨cs,hcl,hcs,hcell⟩:=hel k hlt
   obtain ⟨rfl,rfl⟩:A=some ⟨b,off,none⟩∧c=c':=by injection hform with h1 _ h2;exact ⟨h1,h2⟩
   obtain ⟨x,hx⟩:∃x,x=l[k]:=⟨_,rfl⟩
   have hxm:x∈l:=by rw [hx];exact List.getElem_mem _
   rw [←hx] at hcs
   have hcs2:=RExpr.imp (w':=wr) (ok':=(· < wr.heap.size)) (fun b h=>ltle h hb.size) (fun b h=>hb.block b h) _ hcs
   have HC:=hp wr cs x hxm hcs2 hb
   obtain ⟨va,rfl,hp1⟩:=hcs
   have hcw:=hcell.keep (hb.block b hbl)
   have i0:wr.cell? ⟨b,off+k*5,none⟩=some (.int .i64 x.kind):=by have h:=hcw.at_ (j:=0) rfl;simpa using h
   have i1:wr.cell? ⟨b,off+k*5+1,none⟩=some (.int .i64 x.op):=hcw.at_ (j:=1) rfl
   have i2:wr.cell? ⟨b,off+k*5+2,none⟩=some (.int .i64 x.n):=hcw.at_ (j:=2) rfl
   have i3:wr.cell? ⟨b,off+k*5+3,none⟩=some (.string x.name):=hcw.at_ (j:=3) rfl
   have i4:wr.cell? ⟨b,off+k*5+4,none⟩=some (va):=hcw.at_ (j:=4) rfl
   have HC2:Hid (Calls Tryz.prog 112 #[.agg #[.int .i64 x.kind,.int .i64 x.op,.int .i64 x.n,.string x.name,va],u] wr fun e w'=>e=.returned (.bool (p x))∧Below w.heap.size w w'):=Ω (by simpa [exprCells,stmtCells] using HC)
   have HX:=Ω hx
   clear hcell hcw hel hform hcs2 HC hx
   cases hq:p x with
   |true=>
    rw [hq] at HC2
    go_wp2_with (go_at_call 112;refine HC2.out.mono ?_;rintro e w' ⟨rfl,hb'⟩)
    go_ret
    refine ⟨?_,hb'⟩
    rw [findP_at hlt (by rw [←HX.out];exact hq) HNO.out]
    rfl
   |false=>
    rw [hq] at HC2
    go_wp2_with (go_at_call 112;refine HC2.out.mono ?_;rintro e w' ⟨rfl,hb'⟩)
    go_roundw
    case rel=>
     refine ⟨k+1,by omega,by go_num,fun j h hj=>?_,hb'⟩
     by_cases e:j=k
     ·subst e;rw [←HX.out];exact hq
     ·exact HNO.out j h (by omega)
    case measure=>simp [intOf];omega
  ·have d1:decide ((k:Int)<(l.length:Int))=false:=dF (by omega)
   go_wp2
   go_ret
   refine ⟨?_,hb⟩
   rw [findP_none (q:=p) (l:=l) (fun x hx=>by
    obtain ⟨j,hj,rfl⟩:=List.getElem_of_mem hx
    exact HNO.out j hj (by omega))]
   rfl
theorem con_deep1 (d:Nat) (u:Value) (l:List (LExpr)) (v:Value) (p:LExpr→Bool) (w:World) (hv:SlR w (· < w.heap.size) 5 (RExpr (d+1) w (· < w.heap.size)) v l) (hp:Pred_exp d 112 #[u] p l w) :
  Calls Tryz.prog 88 #[v,.func (.func 112) #[] #[u]] w fun e w'=>e=.returned (.bool (l.any p))∧Below w.heap.size w w':=by
 have h:=idx_deep1 d u l v p w hv hp
 rw [←findP_nonneg]
 go_enter Tryz.func88,Tryz.ntmps88
 go_wp2_with (go_at_call 97;refine h.mono ?_;rintro e w' ⟨rfl,hb'⟩)
 go_ret
 exact ⟨rfl,hb'⟩
theorem idx_well1 (d:Nat) (l:List (LExpr)) (v:Value) (p:LExpr→Bool) (w:World) (hv:SlR w (· < w.heap.size) 5 (RExpr (d+1) w (· < w.heap.size)) v l) (hp:Pred_exp d 114 #[] p l w) :
  Calls Tryz.prog 97 #[v,.func (.func 114) #[] #[]] w fun e w'=>e=.returned (.int .i64 (findP p l))∧Below w.heap.size w w':=by
 obtain ⟨A,c,hvv,hlc,hcm⟩:=hv.val
 have HV:=Ω hv
 clear hv
 subst hvv
 have hlen:=Nat.le_trans hlc hcm
 unfold maxLen at hlen
 go_enter Tryz.func97,Tryz.ntmps97
 go_wp2
 go_loopw [5,8] (fun _ i wr=>∃k:Nat,k≤l.length∧i=.int .i64 k∧(∀j (h:j<l.length),j<k→p l[j]=false)∧Below w.heap.size w wr) (fun _ i _=>l.length-(intOf i).toNat)
 case atStart=>exact ⟨0,by omega,rfl,fun j _ h=>by omega,Below.refl _ _⟩
 case round=>
  obtain ⟨k,hk,rfl,hno,hb⟩:=hrel
  have HNO:=Ω hno
  clear hno
  by_cases hlt:k<l.length
  ·have d1:decide ((k:Int)<(l.length:Int))=true:=dT (by omega)
   obtain ⟨b,off,c',hform,_,_,hbl,hel⟩:=HV.out.form (by omega)
   obtain ⟨cs,hcl,hcs,hcell⟩:=hel k hlt
   obtain ⟨rfl,rfl⟩:A=some ⟨b,off,none⟩∧c=c':=by injection hform with h1 _ h2;exact ⟨h1,h2⟩
   obtain ⟨x,hx⟩:∃x,x=l[k]:=⟨_,rfl⟩
   have hxm:x∈l:=by rw [hx];exact List.getElem_mem _
   rw [←hx] at hcs
   have hcs2:=RExpr.imp (w':=wr) (ok':=(· < wr.heap.size)) (fun b h=>ltle h hb.size) (fun b h=>hb.block b h) _ hcs
   have HC:=hp wr cs x hxm hcs2 hb
   obtain ⟨va,rfl,hp1⟩:=hcs
   have hcw:=hcell.keep (hb.block b hbl)
   have i0:wr.cell? ⟨b,off+k*5,none⟩=some (.int .i64 x.kind):=by have h:=hcw.at_ (j:=0) rfl;simpa using h
   have i1:wr.cell? ⟨b,off+k*5+1,none⟩=some (.int .i64 x.op):=hcw.at_ (j:=1) rfl
   have i2:wr.cell? ⟨b,off+k*5+2,none⟩=some (.int .i64 x.n):=hcw.at_ (j:=2) rfl
   have i3:wr.cell? ⟨b,off+k*5+3,none⟩=some (.string x.name):=hcw.at_ (j:=3) rfl
   have i4:wr.cell? ⟨b,off+k*5+4,none⟩=some (va):=hcw.at_ (j:=4) rfl
   have HC2:Hid (Calls Tryz.prog 114 #[.agg #[.int .i64 x.kind,.int .i64 x.op,.int .i64 x.n,.string x.name,va]] wr fun e w'=>e=.returned (.bool (p x))∧Below w.heap.size w w'):=Ω (by simpa [exprCells,stmtCells] using HC)
   have HX:=Ω hx
   clear hcell hcw hel hform hcs2 HC hx
   cases hq:p x with
   |true=>
    rw [hq] at HC2
    go_wp2_with (go_at_call 114;refine HC2.out.mono ?_;rintro e w' ⟨rfl,hb'⟩)
    go_ret
    refine ⟨?_,hb'⟩
    rw [findP_at hlt (by rw [←HX.out];exact hq) HNO.out]
    rfl
   |false=>
    rw [hq] at HC2
    go_wp2_with (go_at_call 114;refine HC2.out.mono ?_;rintro e w' ⟨rfl,hb'⟩)
    go_roundw
    case rel=>
     refine ⟨k+1,by omega,by go_num,fun j h hj=>?_,hb'⟩
     by_cases e:j=k
     ·subst e;rw [←HX.out];exact hq
     ·exact HNO.out j h (by omega)
    case measure=>simp [intOf];omega
  ·have d1:decide ((k:Int)<(l.length:Int))=false:=dF (by omega)
   go_wp2
   go_ret
   refine ⟨?_,hb⟩
   rw [findP_none (q:=p) (l:=l) (fun x hx=>by
    obtain ⟨j,hj,rfl⟩:=List.getElem_of_mem hx
    exact HNO.out j hj (by omega))]
   rfl
theorem con_well1 (d:Nat) (l:List (LExpr)) (v:Value) (p:LExpr→Bool) (w:World) (hv:SlR w (· < w.heap.size) 5 (RExpr (d+1) w (· < w.heap.size)) v l) (hp:Pred_exp d 114 #[] p l w) :
  Calls Tryz.prog 88 #[v,.func (.func 114) #[] #[]] w fun e w'=>e=.returned (.bool (l.any p))∧Below w.heap.size w w':=by
 have h:=idx_well1 d l v p w hv hp
 rw [←findP_nonneg]
 go_enter Tryz.func88,Tryz.ntmps88
 go_wp2_with (go_at_call 97;refine h.mono ?_;rintro e w' ⟨rfl,hb'⟩)
 go_ret
 exact ⟨rfl,hb'⟩
theorem idx_stmt1 (d:Nat) (l:List (LExpr)) (v:Value) (p:LExpr→Bool) (w:World) (hv:SlR w (· < w.heap.size) 5 (RExpr (d+1) w (· < w.heap.size)) v l) (hp:Pred_exp d 89 #[] p l w) :
  Calls Tryz.prog 97 #[v,.func (.func 89) #[] #[]] w fun e w'=>e=.returned (.int .i64 (findP p l))∧Below w.heap.size w w':=by
 obtain ⟨A,c,hvv,hlc,hcm⟩:=hv.val
 have HV:=Ω hv
 clear hv
 subst hvv
 have hlen:=Nat.le_trans hlc hcm
 unfold maxLen at hlen
 go_enter Tryz.func97,Tryz.ntmps97
 go_wp2
 go_loopw [5,8] (fun _ i wr=>∃k:Nat,k≤l.length∧i=.int .i64 k∧(∀j (h:j<l.length),j<k→p l[j]=false)∧Below w.heap.size w wr) (fun _ i _=>l.length-(intOf i).toNat)
 case atStart=>exact ⟨0,by omega,rfl,fun j _ h=>by omega,Below.refl _ _⟩
 case round=>
  obtain ⟨k,hk,rfl,hno,hb⟩:=hrel
  have HNO:=Ω hno
  clear hno
  by_cases hlt:k<l.length
  ·have d1:decide ((k:Int)<(l.length:Int))=true:=dT (by omega)
   obtain ⟨b,off,c',hform,_,_,hbl,hel⟩:=HV.out.form (by omega)
   obtain ⟨cs,hcl,hcs,hcell⟩:=hel k hlt
   obtain ⟨rfl,rfl⟩:A=some ⟨b,off,none⟩∧c=c':=by injection hform with h1 _ h2;exact ⟨h1,h2⟩
   obtain ⟨x,hx⟩:∃x,x=l[k]:=⟨_,rfl⟩
   have hxm:x∈l:=by rw [hx];exact List.getElem_mem _
   rw [←hx] at hcs
   have hcs2:=RExpr.imp (w':=wr) (ok':=(· < wr.heap.size)) (fun b h=>ltle h hb.size) (fun b h=>hb.block b h) _ hcs
   have HC:=hp wr cs x hxm hcs2 hb
   obtain ⟨va,rfl,hp1⟩:=hcs
   have hcw:=hcell.keep (hb.block b hbl)
   have i0:wr.cell? ⟨b,off+k*5,none⟩=some (.int .i64 x.kind):=by have h:=hcw.at_ (j:=0) rfl;simpa using h
   have i1:wr.cell? ⟨b,off+k*5+1,none⟩=some (.int .i64 x.op):=hcw.at_ (j:=1) rfl
   have i2:wr.cell? ⟨b,off+k*5+2,none⟩=some (.int .i64 x.n):=hcw.at_ (j:=2) rfl
   have i3:wr.cell? ⟨b,off+k*5+3,none⟩=some (.string x.name):=hcw.at_ (j:=3) rfl
   have i4:wr.cell? ⟨b,off+k*5+4,none⟩=some (va):=hcw.at_ (j:=4) rfl
   have HC2:Hid (Calls Tryz.prog 89 #[.agg #[.int .i64 x.kind,.int .i64 x.op,.int .i64 x.n,.string x.name,va]] wr fun e w'=>e=.returned (.bool (p x))∧Below w.heap.size w w'):=Ω (by simpa [exprCells,stmtCells] using HC)
   have HX:=Ω hx
   clear hcell hcw hel hform hcs2 HC hx
   cases hq:p x with
   |true=>
    rw [hq] at HC2
    go_wp2_with (go_at_call 89;refine HC2.out.mono ?_;rintro e w' ⟨rfl,hb'⟩)
    go_ret
    refine ⟨?_,hb'⟩
    rw [findP_at hlt (by rw [←HX.out];exact hq) HNO.out]
    rfl
   |false=>
    rw [hq] at HC2
    go_wp2_with (go_at_call 89;refine HC2.out.mono ?_;rintro e w' ⟨rfl,hb'⟩)
    go_roundw
    case rel=>
     refine ⟨k+1,by omega,by go_num,fun j h hj=>?_,hb'⟩
     by_cases e:j=k
     ·subst e;rw [←HX.out];exact hq
     ·exact HNO.out j h (by omega)
    case measure=>simp [intOf];omega
  ·have d1:decide ((k:Int)<(l.length:Int))=false:=dF (by omega)
   go_wp2
   go_ret
   refine ⟨?_,hb⟩
   rw [findP_none (q:=p) (l:=l) (fun x hx=>by
    obtain ⟨j,hj,rfl⟩:=List.getElem_of_mem hx
    exact HNO.out j hj (by omega))]
   rfl
theorem con_stmt1 (d:Nat) (l:List (LExpr)) (v:Value) (p:LExpr→Bool) (w:World) (hv:SlR w (· < w.heap.size) 5 (RExpr (d+1) w (· < w.heap.size)) v l) (hp:Pred_exp d 89 #[] p l w) :
  Calls Tryz.prog 88 #[v,.func (.func 89) #[] #[]] w fun e w'=>e=.returned (.bool (l.any p))∧Below w.heap.size w w':=by
 have h:=idx_stmt1 d l v p w hv hp
 rw [←findP_nonneg]
 go_enter Tryz.func88,Tryz.ntmps88
 go_wp2_with (go_at_call 97;refine h.mono ?_;rintro e w' ⟨rfl,hb'⟩)
 go_ret
 exact ⟨rfl,hb'⟩
def Pred_stm (d:Nat) (g:Nat) (lb:Array Value) (p:LStmt→Bool) (l:List (LStmt)) (w:World):Prop:=
 ∀(W:World) (cs:List Value) (x:LStmt),x∈l→RStmt (d+1) W (· < W.heap.size) cs x→Below w.heap.size w W→Calls Tryz.prog g (#[(match cs with|[c0,c1,c2,c3,c4]=>.agg #[c0,c1,c2,c3,c4]|_=>undef)]++lb) W fun e w'=>e=.returned (.bool (p x))∧Below w.heap.size w w'
theorem idx_stmts1 (d:Nat) (u:Value) (l:List (LStmt)) (v:Value) (p:LStmt→Bool) (w:World) (hv:SlR w (· < w.heap.size) 5 (RStmt (d+1) w (· < w.heap.size)) v l) (hp:Pred_stm d 64 #[u] p l w) :
  Calls Tryz.prog 86 #[v,.func (.func 64) #[] #[u]] w fun e w'=>e=.returned (.int .i64 (findP p l))∧Below w.heap.size w w':=by
 obtain ⟨A,c,hvv,hlc,hcm⟩:=hv.val
 have HV:=Ω hv
 clear hv
 subst hvv
 have hlen:=Nat.le_trans hlc hcm
 unfold maxLen at hlen
 go_enter Tryz.func86,Tryz.ntmps86
 go_wp2
 go_loopw [5,8] (fun _ i wr=>∃k:Nat,k≤l.length∧i=.int .i64 k∧(∀j (h:j<l.length),j<k→p l[j]=false)∧Below w.heap.size w wr) (fun _ i _=>l.length-(intOf i).toNat)
 case atStart=>exact ⟨0,by omega,rfl,fun j _ h=>by omega,Below.refl _ _⟩
 case round=>
  obtain ⟨k,hk,rfl,hno,hb⟩:=hrel
  have HNO:=Ω hno
  clear hno
  by_cases hlt:k<l.length
  ·have d1:decide ((k:Int)<(l.length:Int))=true:=dT (by omega)
   obtain ⟨b,off,c',hform,_,_,hbl,hel⟩:=HV.out.form (by omega)
   obtain ⟨cs,hcl,hcs,hcell⟩:=hel k hlt
   obtain ⟨rfl,rfl⟩:A=some ⟨b,off,none⟩∧c=c':=by injection hform with h1 _ h2;exact ⟨h1,h2⟩
   obtain ⟨x,hx⟩:∃x,x=l[k]:=⟨_,rfl⟩
   have hxm:x∈l:=by rw [hx];exact List.getElem_mem _
   rw [←hx] at hcs
   have hcs2:=RStmt.imp (w':=wr) (ok':=(· < wr.heap.size)) (fun b h=>ltle h hb.size) (fun b h=>hb.block b h) _ hcs
   have HC:=hp wr cs x hxm hcs2 hb
   obtain ⟨va,vt,ve,rfl,hp1,hp2,hp3⟩:=hcs
   have hcw:=hcell.keep (hb.block b hbl)
   have i0:wr.cell? ⟨b,off+k*5,none⟩=some (.int .i64 x.kind):=by have h:=hcw.at_ (j:=0) rfl;simpa using h
   have i1:wr.cell? ⟨b,off+k*5+1,none⟩=some (.string x.name):=hcw.at_ (j:=1) rfl
   have i2:wr.cell? ⟨b,off+k*5+2,none⟩=some (va):=hcw.at_ (j:=2) rfl
   have i3:wr.cell? ⟨b,off+k*5+3,none⟩=some (vt):=hcw.at_ (j:=3) rfl
   have i4:wr.cell? ⟨b,off+k*5+4,none⟩=some (ve):=hcw.at_ (j:=4) rfl
   have HC2:Hid (Calls Tryz.prog 64 #[.agg #[.int .i64 x.kind,.string x.name,va,vt,ve],u] wr fun e w'=>e=.returned (.bool (p x))∧Below w.heap.size w w'):=Ω (by simpa [exprCells,stmtCells] using HC)
   have HX:=Ω hx
   clear hcell hcw hel hform hcs2 HC hx
   cases hq:p x with
   |true=>
    rw [hq] at HC2
    go_wp2_with (go_at_call 64;refine HC2.out.mono ?_;rintro e w' ⟨rfl,hb'⟩)
    go_ret
    refine ⟨?_,hb'⟩
    rw [findP_at hlt (by rw [←HX.out];exact hq) HNO.out]
    rfl
   |false=>
    rw [hq] at HC2
    go_wp2_with (go_at_call 64;refine HC2.out.mono ?_;rintro e w' ⟨rfl,hb'⟩)
    go_roundw
    case rel=>
     refine ⟨k+1,by omega,by go_num,fun j h hj=>?_,hb'⟩
     by_cases e:j=k
     ·subst e;rw [←HX.out];exact hq
     ·exact HNO.out j h (by omega)
    case measure=>simp [intOf];omega
  ·have d1:decide ((k:Int)<(l.length:Int))=false:=dF (by omega)
   go_wp2
   go_ret
   refine ⟨?_,hb⟩
   rw [findP_none (q:=p) (l:=l) (fun x hx=>by
    obtain ⟨j,hj,rfl⟩:=List.getElem_of_mem hx
    exact HNO.out j hj (by omega))]
   rfl
theorem con_stmts1 (d:Nat) (u:Value) (l:List (LStmt)) (v:Value) (p:LStmt→Bool) (w:World) (hv:SlR w (· < w.heap.size) 5 (RStmt (d+1) w (· < w.heap.size)) v l) (hp:Pred_stm d 64 #[u] p l w) :
  Calls Tryz.prog 63 #[v,.func (.func 64) #[] #[u]] w fun e w'=>e=.returned (.bool (l.any p))∧Below w.heap.size w w':=by
 have h:=idx_stmts1 d u l v p w hv hp
 rw [←findP_nonneg]
 go_enter Tryz.func63,Tryz.ntmps63
 go_wp2_with (go_at_call 86;refine h.mono ?_;rintro e w' ⟨rfl,hb'⟩)
 go_ret
 exact ⟨rfl,hb'⟩
end
end Go.Proofs.YtmignlclfbaifaaGreat
