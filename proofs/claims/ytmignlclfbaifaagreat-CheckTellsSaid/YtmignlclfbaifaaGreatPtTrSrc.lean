/- The generator's source of raw numbers: pick, (*source).next. Printed by wip/gen_trsrc.py. -/
import Derived.Test.YtmignlclfbaifaaGreatPtTrBase
import Derived.Test.YtmignlclfbaifaaGreatPtGen
import Derived.Test.YtmignlclfbaifaaGreatPtRegion
namespace Go.Proofs.YtmignlclfbaifaaGreat
open Go.RowKit
set_option maxHeartbeats 400000 in
theorem pick3_raw (a n:Int) (ha:-9223372036854775808≤a) (ha':a≤9223372036854775807) (hn:0<n) (w:World):Calls Tryz.prog 39 #[.int .i64 a,.int .i64 n] w fun e w'=>e=.returned (.int .i64 (pk a n))∧w=w':=by
 have h0:1≤n:=hn
 have h1:(n == 0)=false:=by rw [beq_eq_false_iff_ne];omega
 by_cases h:a<0
 ·have h2:0≤-(a+1):=by omega
  have hp:Hid (pk a n=-(a+1).tmod n):=by show pk a n=_;rw [pk,if_pos h,←Int.tmod_eq_emod_of_nonneg h2,Int.neg_tmod]
  go_enter Tryz.func39,Tryz.ntmps39
  go_wp2
  go_ret
  exact ⟨congrArg (fun x=>Ending.returned (Value.int .i64 x)) hp.out.symm,rfl⟩
 ·have hp:Hid (pk a n=a%n):=by show pk a n=_;rw [pk,if_neg h]
  have h2:0≤a:=by omega
  go_enter Tryz.func39,Tryz.ntmps39
  go_wp2
  go_ret
  exact ⟨congrArg (fun x=>Ending.returned (Value.int .i64 x)) hp.out.symm,rfl⟩
theorem pick3_n (a:Int) (ha:I64 a) (n:Nat) (hn:0<n):∃i:Nat,i<n∧(i:Int)=pk a n∧∀w,Calls Tryz.prog 39 #[.int .i64 a,.int .i64 (n:Int)] w fun e w'=>e=.returned (.int .i64 (i:Int))∧w=w':=by
 have h0:=pk_lo a n (by omega)
 have h1:=pk_hi a n (by omega)
 refine ⟨(pk a n).toNat,by omega,by omega,fun w=>(pick3_raw a n ha.1 ha.2 (by omega) w).mono ?_⟩
 rintro e w' ⟨he,hw⟩
 refine ⟨?_,hw⟩
 rw [he]
 congr 2
 omega
set_option maxHeartbeats 400000 in
theorem pick5_raw (a n:Int) (ha:-9223372036854775808≤a) (ha':a≤9223372036854775807) (hn:0<n) (w:World):Calls Tryz.prog 19 #[.int .i64 a,.int .i64 n] w fun e w'=>e=.returned (.int .i64 (pk a n))∧w=w':=by
 have h0:1≤n:=hn
 have h1:(n == 0)=false:=by rw [beq_eq_false_iff_ne];omega
 by_cases h:a<0
 ·have h2:0≤-(a+1):=by omega
  have hp:Hid (pk a n=-(a+1).tmod n):=by show pk a n=_;rw [pk,if_pos h,←Int.tmod_eq_emod_of_nonneg h2,Int.neg_tmod]
  go_enter Tryz.func19,Tryz.ntmps19
  go_wp2
  go_ret
  exact ⟨congrArg (fun x=>Ending.returned (Value.int .i64 x)) hp.out.symm,rfl⟩
 ·have hp:Hid (pk a n=a%n):=by show pk a n=_;rw [pk,if_neg h]
  have h2:0≤a:=by omega
  go_enter Tryz.func19,Tryz.ntmps19
  go_wp2
  go_ret
  exact ⟨congrArg (fun x=>Ending.returned (Value.int .i64 x)) hp.out.symm,rfl⟩
theorem pick5_n (a:Int) (ha:I64 a) (n:Nat) (hn:0<n):∃i:Nat,i<n∧(i:Int)=pk a n∧∀w,Calls Tryz.prog 19 #[.int .i64 a,.int .i64 (n:Int)] w fun e w'=>e=.returned (.int .i64 (i:Int))∧w=w':=by
 have h0:=pk_lo a n (by omega)
 have h1:=pk_hi a n (by omega)
 refine ⟨(pk a n).toNat,by omega,by omega,fun w=>(pick5_raw a n ha.1 ha.2 (by omega) w).mono ?_⟩
 rintro e w' ⟨he,hw⟩
 refine ⟨?_,hw⟩
 rw [he]
 congr 2
 omega
def SrcAt (w:World) (sb:Nat):Prop:=∃(A:Option Addr) (c:Nat) (l:List Int) (a:Nat),Blk w sb 58 #[.slice A l.length c,.int .i64 (a:Int)]∧SlR w (· < sb) 1 RInt (.slice A l.length c) l∧a≤l.length∧(∀x∈l,I64 x)∧l.length≤1000
theorem SrcAt.lt {w:World} {sb:Nat} (h:SrcAt w sb):sb<w.heap.size:=by obtain ⟨_,_,_,_,h,_⟩:=h;exact h.lt
theorem SrcAt.keep {w w':World} {sb:Nat} (h:SrcAt w sb) (hk:∀b,b≤sb→w'.heap[b]?=w.heap[b]?):SrcAt w' sb:=by
 obtain ⟨A,c,l,a,h1,h2,h3,h4,h5⟩:=h
 exact ⟨A,c,l,a,h1.keep (hk sb (Nat.le_refl _)),h2.imp (fun _ h=>h) (fun b hb=>hk b (Nat.le_of_lt hb)) fun _ _ _ r=>r,h3,h4,h5⟩
theorem SrcAt.below {w w':World} {sb:Nat} (h:SrcAt w sb) (hb:Below w.heap.size w w'):SrcAt w' sb:=h.keep fun b hbs=>hb.block b (Nat.lt_of_le_of_lt hbs h.lt)
theorem SrcAt.grown {w w':World} {sb:Nat} {row:Option Nat} (h:SrcAt w sb) (hg:w.grownBy w' row) (hr:∀g,row=some g→sb<g):SrcAt w' sb:=h.keep fun b hbs=>hg.block b (Nat.lt_of_le_of_lt hbs h.lt) (fun e=>by have:=hr b e.symm;omega)
section
set_option maxHeartbeats 4000000
theorem next_any (w:World) (sb n:Nat) (hn:0<n) (h:SrcAt w sb) :
  Calls Tryz.prog 21 #[.pointer (some ⟨sb,0,none⟩),.int .i64 (n:Int)] w fun e w'=>(∃k:Nat,k<n∧e=.returned (.int .i64 (k:Int)))∧SrcAt w' sb∧w.grownBy w' (some sb):=by
 obtain ⟨A,c,l,a,hb,hs,ha,hi,hl⟩:=h
 have SO:Hid (∀X,Below w.heap.size w X→(fun X=>X.cell? ⟨sb,0,none⟩=some (.slice A l.length c)∧X.cell? ⟨sb,1,none⟩=some (.int .i64 (a:Int))) X):=Ω (fun X hx=>⟨(hb.below hx hb.lt).cell 0,(hb.below hx hb.lt).cell 1⟩)
 have HX0:Hid (Below w.heap.size w w.drew):=Ω (Below.refl _ _).drew
 have HB:=Ω hb
 have HS:=Ω hs
 have HI:=Ω hi
 clear hb hs hi
 by_cases hlt:a<l.length
 case neg=>
  have d1:decide ((a:Int)≥(l.length:Int))=true:=dT (by omega)
  have d2:decide ((l.length:Int)≤(a:Int))=true:=dT (by omega)
  have HE:Hid (a=l.length):=Ω (by omega)
  have hle:l.length≤a:=by omega
  go_enter Tryz.func21,Tryz.ntmps21
  go_upto_region 1 with fail
  refine wp_region_L (by kernel_rfl) 9 (fun X=>X.cell? ⟨sb,0,none⟩=some (.slice A l.length c)∧X.cell? ⟨sb,1,none⟩=some (.int .i64 (a:Int))) (SO.out _ HX0.out) (fun hHeld=>?_)
  have HS0:=Ω hHeld
  clear hHeld
  change wpAnyL _ _ _ _ _ 9 10 (Array.replicate 10 false) _ _
  refine takeL 0 5 (.pointer (some ⟨sb,0,none⟩)) HS0.out rfl rfl (by kernel_rfl) (by kernel_rfl) (by kernel_rfl) (by decide) (fun _ _ _ h=>h) (by kernel_rfl) ?_ ?_
  ·intro w2;go_simp
  try simp only [sA,sB,sC]
  refine takeL 1 6 (.pointer (some ⟨sb,0,none⟩)) HS0.out rfl rfl (by kernel_rfl) (by kernel_rfl) (by kernel_rfl) (by decide) (fun _ _ _ h=>h) (by kernel_rfl) ?_ ?_
  ·intro w2;go_simp
  try simp only [sA,sB,sC]
  refine takeL 2 7 (.pointer (some ⟨sb,1,none⟩)) HS0.out rfl rfl (by kernel_rfl) (by kernel_rfl) (by kernel_rfl) (by decide) (fun _ _ _ h=>h) (by kernel_rfl) ?_ ?_
  ·intro w2;go_simp
  try simp only [sA,sB,sC]
  refine takeL_S 3 8 (.int .i64 (a:Int)) [9] HS0.out rfl rfl (by kernel_rfl) (by kernel_rfl) (by kernel_rfl) (by decide) (by kernel_rfl) (fun _ _ _ h=>h) (by kernel_rfl) ?_ ?_
  ·intro w2 hSw;obtain ⟨g0,g1⟩:=hSw;go_simp
  try simp only [sA,sB,sC]
  refine takeL 4 9 (.pointer (some ⟨sb,0,none⟩)) HS0.out rfl rfl (by kernel_rfl) (by kernel_rfl) (by kernel_rfl) (by decide) (fun _ _ _ h=>h) (by kernel_rfl) ?_ ?_
  ·intro w2;go_simp
  try simp only [sA,sB,sC]
  refine takeL 5 10 (.pointer (some ⟨sb,0,none⟩)) HS0.out rfl rfl (by kernel_rfl) (by kernel_rfl) (by kernel_rfl) (by decide) (fun _ _ _ h=>h) (by kernel_rfl) ?_ ?_
  ·intro w2;go_simp
  try simp only [sA,sB,sC]
  refine takeL 6 11 (.pointer (some ⟨sb,0,none⟩)) HS0.out rfl rfl (by kernel_rfl) (by kernel_rfl) (by kernel_rfl) (by decide) (fun _ _ _ h=>h) (by kernel_rfl) ?_ ?_
  ·intro w2;go_simp
  try simp only [sA,sB,sC]
  refine takeL_S 7 12 (.slice A l.length c) [8,9] HS0.out rfl rfl (by kernel_rfl) (by kernel_rfl) (by kernel_rfl) (by decide) (by kernel_rfl) (fun _ _ _ h=>h) (by kernel_rfl) ?_ ?_
  ·intro w2 hSw;obtain ⟨g0,g1⟩:=hSw;go_simp
  try simp only [sA,sB,sC]
  refine takeL 8 13 (.int .i64 (l.length:Int)) HS0.out rfl rfl (by kernel_rfl) (by kernel_rfl) (by kernel_rfl) (by decide) (fun _ _ _ h=>h) (by kernel_rfl) ?_ ?_
  ·intro w2;go_simp
  try simp only [sA,sB,sC]
  refine wpAnyL_ready (rs:=[9]) (by kernel_rfl) (by simp) ?_
  refine AllReadyL.last rfl (by kernel_rfl) (fun K hK=>?_)
  go_simp
  refine hK.out _ _ ?_
  clear hK K
  try simp only [sA,sB,sC]
  refine wpAnyL_done (by kernel_rfl) ?_ _
  go_wp2
  go_ret
  have hd:w.grownBy w.drew (some sb):=⟨HX0.out.os,HX0.out.tape,HX0.out.output,HX0.out.size,fun k hk _=>HX0.out.block k hk⟩
  exact ⟨⟨0,hn,rfl⟩,SrcAt.below ⟨A,c,l,a,HB.out,HS.out,ha,HI.out,hl⟩ HX0.out,hd⟩
 ·have d1:decide ((a:Int)≥(l.length:Int))=false:=dF (by omega)
  have d2:decide ((l.length:Int)≤(a:Int))=false:=dF (by omega)
  have hle:¬l.length≤a:=by omega
  obtain ⟨b,off,c',hform,_,_,hbl,hel⟩:=HS.out.form (by omega)
  obtain ⟨cs,hcl,hcs,hcell⟩:=hel a hlt
  obtain ⟨rfl,rfl⟩:A=some ⟨b,off,none⟩∧c=c':=by injection hform with h1 _ h2;exact ⟨h1,h2⟩
  obtain ⟨x,hx⟩:∃x,x=l[a]:=⟨_,rfl⟩
  rw [←hx] at hcs
  obtain rfl:cs=[.int .i64 x]:=hcs
  have hxi:I64 x:=HI.out x (by rw [hx];exact List.getElem_mem _)
  obtain ⟨k,hkn,-,hpk⟩:=pick3_n x hxi n hn
  have HPK:=Ω hpk
  have HCELL:=Ω hcell
  have HBL:=Ω hbl
  clear hcell hcl hel hform hx hxi hpk hbl
  have s1:w.cell? ⟨sb,1,none⟩=some (.int .i64 (a:Int)):=HB.out.cell 1
  have sf:w.frozen? ⟨sb,1,none⟩=false:=HB.out.frozen 1
  go_enter Tryz.func21,Tryz.ntmps21
  go_upto_region 1 with fail
  refine wp_region_L (by kernel_rfl) 9 (fun X=>X.cell? ⟨sb,0,none⟩=some (.slice (some ⟨b,off,none⟩) l.length c)∧X.cell? ⟨sb,1,none⟩=some (.int .i64 (a:Int))) (SO.out _ HX0.out) (fun hHeld=>?_)
  have HS0:=Ω hHeld
  clear hHeld
  change wpAnyL _ _ _ _ _ 9 10 (Array.replicate 10 false) _ _
  refine takeL 0 5 (.pointer (some ⟨sb,0,none⟩)) HS0.out rfl rfl (by kernel_rfl) (by kernel_rfl) (by kernel_rfl) (by decide) (fun _ _ _ h=>h) (by kernel_rfl) ?_ ?_
  ·intro w2;go_simp
  try simp only [sA,sB,sC]
  refine takeL 1 6 (.pointer (some ⟨sb,0,none⟩)) HS0.out rfl rfl (by kernel_rfl) (by kernel_rfl) (by kernel_rfl) (by decide) (fun _ _ _ h=>h) (by kernel_rfl) ?_ ?_
  ·intro w2;go_simp
  try simp only [sA,sB,sC]
  refine takeL 2 7 (.pointer (some ⟨sb,1,none⟩)) HS0.out rfl rfl (by kernel_rfl) (by kernel_rfl) (by kernel_rfl) (by decide) (fun _ _ _ h=>h) (by kernel_rfl) ?_ ?_
  ·intro w2;go_simp
  try simp only [sA,sB,sC]
  refine takeL_S 3 8 (.int .i64 (a:Int)) [9] HS0.out rfl rfl (by kernel_rfl) (by kernel_rfl) (by kernel_rfl) (by decide) (by kernel_rfl) (fun _ _ _ h=>h) (by kernel_rfl) ?_ ?_
  ·intro w2 hSw;obtain ⟨g0,g1⟩:=hSw;go_simp
  try simp only [sA,sB,sC]
  refine takeL 4 9 (.pointer (some ⟨sb,0,none⟩)) HS0.out rfl rfl (by kernel_rfl) (by kernel_rfl) (by kernel_rfl) (by decide) (fun _ _ _ h=>h) (by kernel_rfl) ?_ ?_
  ·intro w2;go_simp
  try simp only [sA,sB,sC]
  refine takeL 5 10 (.pointer (some ⟨sb,0,none⟩)) HS0.out rfl rfl (by kernel_rfl) (by kernel_rfl) (by kernel_rfl) (by decide) (fun _ _ _ h=>h) (by kernel_rfl) ?_ ?_
  ·intro w2;go_simp
  try simp only [sA,sB,sC]
  refine takeL 6 11 (.pointer (some ⟨sb,0,none⟩)) HS0.out rfl rfl (by kernel_rfl) (by kernel_rfl) (by kernel_rfl) (by decide) (fun _ _ _ h=>h) (by kernel_rfl) ?_ ?_
  ·intro w2;go_simp
  try simp only [sA,sB,sC]
  refine takeL_S 7 12 (.slice (some ⟨b,off,none⟩) l.length c) [8,9] HS0.out rfl rfl (by kernel_rfl) (by kernel_rfl) (by kernel_rfl) (by decide) (by kernel_rfl) (fun _ _ _ h=>h) (by kernel_rfl) ?_ ?_
  ·intro w2 hSw;obtain ⟨g0,g1⟩:=hSw;go_simp
  try simp only [sA,sB,sC]
  refine takeL 8 13 (.int .i64 (l.length:Int)) HS0.out rfl rfl (by kernel_rfl) (by kernel_rfl) (by kernel_rfl) (by decide) (fun _ _ _ h=>h) (by kernel_rfl) ?_ ?_
  ·intro w2;go_simp
  try simp only [sA,sB,sC]
  refine wpAnyL_ready (rs:=[9]) (by kernel_rfl) (by simp) ?_
  refine AllReadyL.last rfl (by kernel_rfl) (fun K hK=>?_)
  go_simp
  refine hK.out _ _ ?_
  clear hK K
  try simp only [sA,sB,sC]
  refine wpAnyL_done (by kernel_rfl) ?_ _
  go_upto_region 4 with fail
  refine wp_world ?_
  intro W4 hW4
  have hg4:w.grownBy W4 (some sb):=by
   rw [←hW4]
   exact (grown_set w ⟨sb,1,none⟩ _).trans ((grown_below' (row:=some sb) (Below.refl _ _).drew))
  have hb4:Blk W4 sb 58 #[.slice (some ⟨b,off,none⟩) l.length c,.int .i64 ((a:Int)+1)]:=by
   rw [←hW4]
   exact ((HB.out.set_ 1 (.int .i64 ((a:Int)+1))).drew)
  have hkp:∀q,q<sb→W4.heap[q]?=w.heap[q]?:=fun q hq=>hg4.block q (Nat.lt_trans hq HB.out.lt) (fun e=>by have:=sj e;omega)
  have hs4:SlR W4 (· < sb) 1 RInt (.slice (some ⟨b,off,none⟩) l.length c) l:=HS.out.imp (fun _ h=>h) (fun q hq=>hkp q hq) fun _ _ _ r=>r
  have hc4:W4.cell? ⟨b,off+a,none⟩=some (.int .i64 x):=by
   have h:=(HCELL.out.keep (hkp b HBL.out)).at_ (j:=0) rfl
   simpa using h
  have hbw:b<W4.heap.size:=Nat.lt_trans HBL.out hb4.lt
  have SO4:Hid (∀X,Below W4.heap.size W4 X→(fun X=>X.cell? ⟨sb,0,none⟩=some (.slice (some ⟨b,off,none⟩) l.length c)∧X.cell? ⟨sb,1,none⟩=some (.int .i64 ((a:Int)+1))∧X.cell? ⟨b,off+a,none⟩=some (.int .i64 x)) X):=Ω (fun X hx=>⟨(hb4.below hx hb4.lt).cell 0,(hb4.below hx hb4.lt).cell 1,(hx.cell (p:=⟨b,off+a,none⟩) hbw).trans hc4⟩)
  have HX4:Hid (Below W4.heap.size W4 W4.drew):=Ω (Below.refl _ _).drew
  have wa:IntKind.i64.wrap (a:Int)=(a:Int):=by rw [IntKind.wrap_i64];omega
  have HG4:=Ω hg4
  have HB4:=Ω hb4
  have HS4:=Ω hs4
  clear hW4 hg4 hb4 hkp hs4 hc4 s1 sf d1 d2 hle
  refine wp_region_L (by kernel_rfl) 13 (fun X=>X.cell? ⟨sb,0,none⟩=some (.slice (some ⟨b,off,none⟩) l.length c)∧X.cell? ⟨sb,1,none⟩=some (.int .i64 ((a:Int)+1))∧X.cell? ⟨b,off+a,none⟩=some (.int .i64 x)) (SO4.out _ HX4.out) (fun hHeld=>?_)
  have HS0:=Ω hHeld
  clear hHeld
  change wpAnyL _ _ _ _ _ 13 14 (Array.replicate 14 false) _ _
  obtain ⟨X4,hX4⟩:∃X4,W4.drew=X4:=⟨_,rfl⟩
  rw [hX4] at HX4 HS0 ⊢
  clear hX4
  refine takeL 0 22 (.pointer (some ⟨sb,0,none⟩)) HS0.out rfl rfl (by kernel_rfl) (by kernel_rfl) (by kernel_rfl) (by decide) (fun _ _ _ h=>h) (by kernel_rfl) ?_ ?_
  ·intro w2;go_simp
  try simp only [sA,sB,sC]
  refine takeL 1 23 (.pointer (some ⟨sb,0,none⟩)) HS0.out rfl rfl (by kernel_rfl) (by kernel_rfl) (by kernel_rfl) (by decide) (fun _ _ _ h=>h) (by kernel_rfl) ?_ ?_
  ·intro w2;go_simp
  try simp only [sA,sB,sC]
  refine takeL 2 24 (.pointer (some ⟨sb,0,none⟩)) HS0.out rfl rfl (by kernel_rfl) (by kernel_rfl) (by kernel_rfl) (by decide) (fun _ _ _ h=>h) (by kernel_rfl) ?_ ?_
  ·intro w2;go_simp
  try simp only [sA,sB,sC]
  refine takeL_S 3 25 (.slice (some ⟨b,off,none⟩) l.length c) [13] HS0.out rfl rfl (by kernel_rfl) (by kernel_rfl) (by kernel_rfl) (by decide) (by kernel_rfl) (fun _ _ _ h=>h) (by kernel_rfl) ?_ ?_
  ·intro w2 hSw;obtain ⟨g0,g1,g2⟩:=hSw;go_simp
  try simp only [sA,sB,sC]
  refine takeL 4 26 (.pointer (some ⟨sb,0,none⟩)) HS0.out rfl rfl (by kernel_rfl) (by kernel_rfl) (by kernel_rfl) (by decide) (fun _ _ _ h=>h) (by kernel_rfl) ?_ ?_
  ·intro w2;go_simp
  try simp only [sA,sB,sC]
  refine takeL 5 27 (.pointer (some ⟨sb,0,none⟩)) HS0.out rfl rfl (by kernel_rfl) (by kernel_rfl) (by kernel_rfl) (by decide) (fun _ _ _ h=>h) (by kernel_rfl) ?_ ?_
  ·intro w2;go_simp
  try simp only [sA,sB,sC]
  refine takeL 6 28 (.pointer (some ⟨sb,1,none⟩)) HS0.out rfl rfl (by kernel_rfl) (by kernel_rfl) (by kernel_rfl) (by decide) (fun _ _ _ h=>h) (by kernel_rfl) ?_ ?_
  ·intro w2;go_simp
  try simp only [sA,sB,sC]
  refine takeL_S 7 29 (.int .i64 ((a:Int)+1)) [13] HS0.out rfl rfl (by kernel_rfl) (by kernel_rfl) (by kernel_rfl) (by decide) (by kernel_rfl) (fun _ _ _ h=>h) (by kernel_rfl) ?_ ?_
  ·intro w2 hSw;obtain ⟨g0,g1,g2⟩:=hSw;go_simp
  try simp only [sA,sB,sC]
  refine takeL 8 30 (.int .i64 (a:Int)) HS0.out rfl rfl (by kernel_rfl) (by kernel_rfl) (by kernel_rfl) (by decide) (fun _ _ _ h=>h) (by kernel_rfl) ?_ ?_
  ·intro w2;go_simp
  try simp only [sA,sB,sC]
  refine takeL 9 31 (.pointer (some ⟨b,off+a,none⟩)) HS0.out rfl rfl (by kernel_rfl) (by kernel_rfl) (by kernel_rfl) (by decide) (fun _ _ _ h=>h) (by kernel_rfl) ?_ ?_
  ·intro w2;go_simp
  try simp only [sA,sB,sC]
  refine takeL_S 10 32 (.int .i64 x) [13] HS0.out rfl rfl (by kernel_rfl) (by kernel_rfl) (by kernel_rfl) (by decide) (by kernel_rfl) (fun _ _ _ h=>h) (by kernel_rfl) ?_ ?_
  ·intro w2 hSw;obtain ⟨g0,g1,g2⟩:=hSw;go_simp
  try simp only [sA,sB,sC]
  refine takeL 11 33 (.int .i64 (n:Int)) HS0.out rfl rfl (by kernel_rfl) (by kernel_rfl) (by kernel_rfl) (by decide) (fun _ _ _ h=>h) (by kernel_rfl) ?_ ?_
  ·intro w2;go_simp
  try simp only [sA,sB,sC]
  refine wpAnyL_ready (rs:=[12]) (by kernel_rfl) (by simp) ?_
  refine AllReadyL.cons rfl (fun K hK=>?_) AllReadyL.nil
  go_simp
  refine (HPK.out X4).mono ?_
  rintro e X5 ⟨rfl,rfl⟩
  refine hK.out _ _ (SO4.out _ HX4.out) (fun hHeld=>?_)
  have HS1:=Ω hHeld
  clear hK K hHeld
  try simp only [sA,sB,sC]
  refine wpAnyL_ready (rs:=[13]) (by kernel_rfl) (by simp) ?_
  refine AllReadyL.last rfl (by kernel_rfl) (fun K hK=>?_)
  go_simp
  refine hK.out _ _ ?_
  clear hK K
  try simp only [sA,sB,sC]
  refine wpAnyL_done (by kernel_rfl) ?_ _
  go_wp2
  go_ret
  have hsrc:SrcAt W4 sb:=⟨some ⟨b,off,none⟩,c,l,a+1,by simpa using HB4.out,HS4.out,by omega,HI.out,hl⟩
  exact ⟨⟨k,hkn,rfl⟩,hsrc.below HX4.out,HG4.out.trans (grown_below' (row:=some sb) HX4.out)⟩
end
end Go.Proofs.YtmignlclfbaifaaGreat
