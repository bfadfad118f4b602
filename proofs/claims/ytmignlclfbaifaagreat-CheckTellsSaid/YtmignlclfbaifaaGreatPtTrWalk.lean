/- check.walk, all: all statements come, each with whether it is in a loop, in their order; or the first of them, where a round has said 'no more'. -/
import Derived.Test.YtmignlclfbaifaaGreatPtTrCk
import Derived.RangeFuncNested
import Derived.RangeFuncBound
import Derived.RangeFuncCalls
import Derived.RangeFuncLeaves
import Derived.RangeFuncBox
import Derived.Shelf.Abstract
import Derived.Shelf.RegionOpen
import Derived.OwnWalkIn
import Derived.TacticsInMore
import Derived.LoopNIn
import Derived.LoopIn
namespace Go.Proofs.YtmignlclfbaifaaGreat
open Go.RowKit Go.Shelf
theorem room_of_none {F:Fence} (hd:F.depth=none) (k:Nat):F.room k:=fun d h=>by rw [hd] at h;cases h
theorem wround_any {F:Fence} (hd:F.depth=none) {m m':Nat} {P:Program} {l:Nat} {f:FuncId} {tmps:Array Value} {assign body:Code} {w:World} {R:Ending→World→Prop}
  (h:RoundIn F m P l f tmps assign body w R):RoundIn F m' P l f tmps assign body w R:=⟨h.1,fun c cs _=>h.2 c cs (room_of_none hd _)⟩
theorem yield_any {F:Fence} (hd:F.depth=none) {m:Nat} (m':Nat) {P:Program} {l:Nat} {args:Array Value} {W:World} {R:Ending→World→Prop} (h:YieldAt F m P l args W R):YieldAt F m' P l args W R:=by
 obtain ⟨fn,tmps,assign,body,hy,hR⟩:=h
 exact ⟨fn,tmps,assign,body,hy,wround_any hd hR⟩
def KpB (n₀ B:Nat) (A C:World):Prop:=Below n₀ A C∧∀(b:Nat) (t:TypeId) (cs:Array Value),B≤b→Blk A b t cs→Blk C b t cs
theorem KpB.refl (n₀ B:Nat) (A:World):KpB n₀ B A A:=⟨Below.refl _ _,fun _ _ _ _ h=>h⟩
theorem KpB.trans {n₀ B:Nat} {A C E:World} (h:KpB n₀ B A C) (k:KpB n₀ B C E):KpB n₀ B A E:=⟨h.1.trans k.1,fun b t cs hb hk=>k.2 b t cs hb (h.2 b t cs hb hk)⟩
theorem KpB.alloc {n₀ B:Nat} (A:World) (o:Obj) (h:n₀≤A.heap.size):KpB n₀ B A (A.alloc o):=⟨(Below.refl _ _).alloc h _,fun _ _ _ _ hk=>hk.alloc _⟩
theorem KpB.below {n₀ B:Nat} {A C:World} (h:Below A.heap.size A C) (hn:n₀≤A.heap.size):KpB n₀ B A C:=⟨h.mono hn,fun _ _ _ _ hk=>hk.below h hk.lt⟩
structure XS (w0:World) (n₀ D:Nat) where
 s:LStmt
 loop:Bool
 Aa:Option Addr
 ca:Nat
 At:Option Addr
 ct:Nat
 Ae:Option Addr
 ce:Nat
 h:SlR w0 (· < n₀) 5 (RExpr D w0 (· < n₀)) (.slice Aa s.args.length ca) s.args
abbrev XS.pr {w0:World} {n₀ D:Nat} (x:XS w0 n₀ D):LStmt × Bool:=(x.s,x.loop)
abbrev XS.cs {w0:World} {n₀ D:Nat} (x:XS w0 n₀ D):Array Value:=#[.int .i64 x.s.kind,.string x.s.name,.slice x.Aa x.s.args.length x.ca,.slice x.At x.s.thn.length x.ct,.slice x.Ae x.s.els.length x.ce]
abbrev XS.encs {w0:World} {n₀ D:Nat} (x:XS w0 n₀ D):Array Value:=#[.agg x.cs,.bool x.loop]
theorem allL_take {d:Nat} {l:List LStmt} {loop:Bool} {k:Nat} (hk:k<l.length):allL (d+1) (l.take (k+1)) loop=allL (d+1) (l.take k) loop++((l[k],loop) :: (allL d l[k].thn (loop || decide (l[k].kind=4))++allL d l[k].els loop)):=by
 rw [List.take_succ_eq_append_getElem hk,allL_append]
 congr 1
 show ([l[k]].flatMap fun s=>(s,loop) :: (allL d s.thn (loop || decide (s.kind=4))++allL d s.els loop))=_
 simp
theorem allL_pre {d:Nat} {l:List LStmt} {loop:Bool} (k:Nat):allL d (l.take k) loop <+: allL d l loop:=by
 conv=>rhs;rw [←List.take_append_drop k l]
 rw [allL_append]
 exact List.prefix_append _ _
section
attribute [local go_sem] Oper.semAt_some
set_option maxRecDepth 100000
set_option maxHeartbeats 4000000
theorem walk1_any (F:Fence) (hd:F.depth=none) (h73:F.fn 73) (hro:F.round=none) (y n₀ B N D:Nat) (w0:World) (hnB:n₀≤B) (J Jx:List (XS w0 n₀ D)→World→Prop) (hJa:∀s W o,J s W→J s (W.alloc o))
  (hY:∀m pre (x:XS w0 n₀ D) W,J pre W→pre.length<N→YieldAt F m Tryz.prog y x.encs W fun e W'=>
   (e=.returned (.bool true)∧J (pre++[x]) W'∧KpB n₀ B W W')∨(e=.returned (.bool false)∧Jx (pre++[x]) W')) :
  ∀(dd:Nat),dd≤D→∀(n:Nat) (l:List LStmt) (loop:Bool) (v:Value) (pre:List (XS w0 n₀ D)) (W:World),Below n₀ w0 W→B≤W.heap.size→SlR w0 (· < n₀) 5 (RStmt dd w0 (· < n₀)) v l→J pre W→pre.length+(allL dd l loop).length≤N→
   CallsIn F n Tryz.prog 73 #[v,.bool loop,.func (.yield y) #[] #[]] W fun e W'=>
    (e=.returned (.bool true)∧(∃xs:List (XS w0 n₀ D),xs.map XS.pr=allL dd l loop∧J (pre++xs) W')∧KpB n₀ B W W')∨(e=.returned (.bool false)∧∃q:List (XS w0 n₀ D),q.map XS.pr <+: allL dd l loop∧Jx (pre++q) W'):=by
 intro dd
 induction dd with
 |zero=>
  intro _ n l loop v pre W hbw hBW hv hJ _
  obtain ⟨A,c,rfl,_,_⟩:=hv.val
  have he:l.length=0:=by
   rcases Nat.eq_zero_or_pos l.length with h|h
   ·exact h
   ·obtain ⟨_,_,_,_,_,_,_,hel⟩:=hv.form h
    obtain ⟨_,_,hr,_⟩:=hel 0 h
    exact hr.elim
  obtain rfl:l=[]:=List.eq_nil_of_length_eq_zero he
  clear hv hY
  refine callsIn_of_wp Tryz.func73 rfl h73 ?_ hro
  simp only [Tryz.ntmps73,List.size_toArray,List.length_cons,List.length_nil,Nat.reduceAdd,Nat.reduceSub,Array.replicate_succ,Array.replicate_zero,List.push_toArray,List.append_toArray,List.nil_append,List.cons_append]
  gi_wp2
  gi_loopw [8,11] (fun _ i wr=>i=.int .i64 0∧wr=W) (fun _ _ _=>0)
  case atStart=>exact ⟨rfl,rfl⟩
  case round=>
   obtain ⟨rfl,rfl⟩:=hrel
   gi_wp2
   go_ret
   exact .inl ⟨rfl,⟨[],rfl,by simpa using hJ⟩,KpB.refl _ _ _⟩
 |succ dd ih=>
  intro hdD n l loop v pre W hbw hBW hv hJ hN
  obtain ⟨A,c,rfl,hlc,hcm⟩:=hv.val
  have hlen:=Nat.le_trans hlc hcm
  unfold maxLen at hlen
  have hdd:∀k:Nat,(F.depth.isSome=true→1≤k):=fun k h=>by rw [hd] at h;cases h
  have HV:=Ω hv
  have IH:=Ω (ih (by omega))
  have HY:=Ω hY
  have HBW:=Ω hbw
  have HNB:=Ω hnB
  have HDD:=Ω hdD
  have HN:=Ω hN
  have HJA:=Ω hJa
  clear hv ih hY hbw hN hJa
  refine callsIn_of_wp Tryz.func73 rfl h73 ?_ hro
  simp only [Tryz.ntmps73,List.size_toArray,List.length_cons,List.length_nil,Nat.reduceAdd,Nat.reduceSub,Array.replicate_succ,Array.replicate_zero,List.push_toArray,List.append_toArray,List.nil_append,List.cons_append]
  gi_wp2
  gi_loopw [8,11] (fun _ i wr=>∃k:Nat,k≤l.length∧i=.int .i64 k∧(∃xs:List (XS w0 n₀ D),xs.map XS.pr=allL (dd+1) (l.take k) loop∧J (pre++xs) wr)∧KpB n₀ B W wr) (fun _ i _=>l.length-(intOf i).toNat)
  case atStart=>exact ⟨0,by omega,rfl,⟨[],by rw [List.take_zero];rfl,by simpa using hJ⟩,KpB.refl _ _ _⟩
  case round=>
   obtain ⟨k,hk,rfl,⟨xs,hxs,hJs⟩,hkp⟩:=hrel
   by_cases hlt:k<l.length
   ·have d1:decide ((k:Int)<(l.length:Int))=true:=dT (by omega)
    obtain ⟨b,off,c',hform,_,_,hbl,hel⟩:=HV.out.form (by omega)
    obtain ⟨cs,hcl,hcs,hcell⟩:=hel k hlt
    obtain ⟨rfl,rfl⟩:A=some ⟨b,off,none⟩∧c=c':=by injection hform with h1 _ h2;exact ⟨h1,h2⟩
    have htk:=allL_take (d:=dd) (loop:=loop) hlt
    have hpf:=(allL_pre (d:=dd+1) (l:=l) (loop:=loop) (k+1)).length_le
    obtain ⟨s,hs⟩:∃s,s=l[k]:=⟨_,rfl⟩
    rw [←hs] at hcs htk
    obtain ⟨va,vt,ve,rfl,h1,h2,h3⟩:=hcs
    obtain ⟨Aa,ca,rfl,_,_⟩:=h1.val
    obtain ⟨At,ct,rfl,_,_⟩:=h2.val
    obtain ⟨Ae,ce,rfl,_,_⟩:=h3.val
    have hw0:Below n₀ w0 wr:=HBW.out.trans hkp.1
    have hcw:=hcell.keep (hw0.block b hbl)
    have i0:wr.cell? ⟨b,off+k*5,none⟩=some (.int .i64 s.kind):=by have h:=hcw.at_ (j:=0) rfl;simpa using h
    have i1:wr.cell? ⟨b,off+k*5+1,none⟩=some (.string s.name):=by have h:=hcw.at_ (j:=1) rfl;simpa using h
    have i2:wr.cell? ⟨b,off+k*5+2,none⟩=some (.slice Aa s.args.length ca):=by have h:=hcw.at_ (j:=2) rfl;simpa using h
    have i3:wr.cell? ⟨b,off+k*5+3,none⟩=some (.slice At s.thn.length ct):=by have h:=hcw.at_ (j:=3) rfl;simpa using h
    have i4:wr.cell? ⟨b,off+k*5+4,none⟩=some (.slice Ae s.els.length ce):=by have h:=hcw.at_ (j:=4) rfl;simpa using h
    obtain ⟨x,hxd⟩:∃x:XS w0 n₀ D,x=⟨s,loop,Aa,ca,At,ct,Ae,ce,h1.imp (fun _ h=>h) (Keeps.refl _ _) fun _ _ _ r=>RExpr.up _ hdD r⟩:=⟨_,rfl⟩
    have hxpr:x.pr=(s,loop):=by rw [hxd]
    have hxe:x.encs=#[.agg #[.int .i64 s.kind,.string s.name,.slice Aa s.args.length ca,.slice At s.thn.length ct,.slice Ae s.els.length ce],.bool loop]:=by rw [hxd]
    have hxl:(allL (dd+1) (l.take k) loop).length=xs.length:=by rw [←hxs,List.length_map]
    have hNl:=HN.out
    have hlens:pre.length+xs.length+(1+((allL dd s.thn (loop || decide (s.kind=4))).length+(allL dd s.els loop).length))≤N:=by
     rw [htk,List.length_append,hxl,List.length_cons,List.length_append] at hpf
     omega
    have hsz:B≤wr.heap.size:=Nat.le_trans hBW hkp.1.size
    obtain ⟨kq,hkq⟩:∃q,q=decide (s.kind=4):=⟨_,rfl⟩
    have k4:(s.kind == 4)=kq:=by rw [beq_dec];exact hkq.symm
    rw [←hkq] at htk hlens
    obtain ⟨l1,hl1⟩:∃q,q=(loop || kq):=⟨_,rfl⟩
    rw [←hl1] at htk hlens
    have hkA:KpB n₀ B wr (wr.alloc (.cells #[.int .i64 s.kind,.string s.name,.slice Aa s.args.length ca,.slice At s.thn.length ct,.slice Ae s.els.length ce] 45)):=KpB.alloc _ _ (by omega)
    have hGA:Blk (wr.alloc (.cells #[.int .i64 s.kind,.string s.name,.slice Aa s.args.length ca,.slice At s.thn.length ct,.slice Ae s.els.length ce] 45)) wr.heap.size 45 #[.int .i64 s.kind,.string s.name,.slice Aa s.args.length ca,.slice At s.thn.length ct,.slice Ae s.els.length ce]:=Blk.new _ _ _
    -- the round at the statement
    have hy2:YieldAt F (n-1) Tryz.prog y x.encs (wr.alloc (.cells #[.int .i64 s.kind,.string s.name,.slice Aa s.args.length ca,.slice At s.thn.length ct,.slice Ae s.els.length ce] 45)) fun e W1=>
      (e=.returned (.bool true)∧Hid (J (pre++xs++[x]) W1)∧Hid (KpB n₀ B wr W1)∧Hid (Blk W1 wr.heap.size 45 #[.int .i64 s.kind,.string s.name,.slice Aa s.args.length ca,.slice At s.thn.length ct,.slice Ae s.els.length ce])
       ∧W1.cell? ⟨wr.heap.size,0,none⟩=some (.int .i64 s.kind)∧W1.cell? ⟨wr.heap.size,3,none⟩=some (.slice At s.thn.length ct)∧W1.cell? ⟨wr.heap.size,4,none⟩=some (.slice Ae s.els.length ce))∨(e=.returned (.bool false)∧Hid (Jx (pre++xs++[x]) W1)):=
     YieldAt.mono (HY.out (n-1) (pre++xs) x _ (HJA.out _ _ _ hJs) (by rw [List.length_append];omega)) fun e W1 h=>h.elim
      (fun ⟨he,hj,hkk⟩=>.inl ⟨he,Ω hj,Ω (hkA.trans hkk),Ω (hkk.2 _ _ _ hsz hGA),(hkk.2 _ _ _ hsz hGA).cell 0,(hkk.2 _ _ _ hsz hGA).cell 3,(hkk.2 _ _ _ hsz hGA).cell 4⟩)
      (fun ⟨he,hj⟩=>.inr ⟨he,Ω hj⟩)
    rw [hxe] at hy2
    obtain ⟨fn,tmps,assign,body,hy,hR⟩:=hy2
    have HT:Hid (∀(W1:World),KpB n₀ B wr W1→J (pre++xs++[x]) W1→Blk W1 wr.heap.size 45 #[.int .i64 s.kind,.string s.name,.slice Aa s.args.length ca,.slice At s.thn.length ct,.slice Ae s.els.length ce]→CallsIn F (n-1) Tryz.prog 73 #[.slice At s.thn.length ct,.bool l1,.func (.yield y) #[] #[]] W1 fun e W2=>
      (e=.returned (.bool true)∧Hid (∃zs:List (XS w0 n₀ D),zs.map XS.pr=allL dd s.thn l1∧J (pre++xs++[x]++zs) W2)∧Hid (KpB n₀ B wr W2)∧W2.cell? ⟨wr.heap.size,4,none⟩=some (.slice Ae s.els.length ce))∨(e=.returned (.bool false)∧Hid (∃q:List (XS w0 n₀ D),q.map XS.pr <+: allL dd s.thn l1∧Jx (pre++xs++[x]++q) W2))):=Ω (fun W1 hk1 hj1 hg1=>
     (IH.out (n-1) s.thn l1 _ (pre++xs++[x]) W1 (hw0.trans hk1.1) (Nat.le_trans hsz hk1.1.size) h2 hj1 (by rw [List.length_append,List.length_append,List.length_singleton];omega)).mono fun e W2 h=>h.elim
      (fun ⟨he,hz,hk2⟩=>.inl ⟨he,Ω hz,Ω (hk1.trans hk2),(hk2.2 _ _ _ hsz hg1).cell 4⟩)
      (fun ⟨he,hq⟩=>.inr ⟨he,Ω hq⟩))
    have HE:Hid (∀(zs:List (XS w0 n₀ D)) (W2:World),zs.map XS.pr=allL dd s.thn l1→KpB n₀ B wr W2→J (pre++xs++[x]++zs) W2→CallsIn F (n-1) Tryz.prog 73 #[.slice Ae s.els.length ce,.bool loop,.func (.yield y) #[] #[]] W2 fun e W3=>
      (e=.returned (.bool true)∧Hid (∃us:List (XS w0 n₀ D),us.map XS.pr=allL dd s.els loop∧J (pre++xs++[x]++zs++us) W3)∧Hid (KpB n₀ B wr W3))∨(e=.returned (.bool false)∧Hid (∃q:List (XS w0 n₀ D),q.map XS.pr <+: allL dd s.els loop∧Jx (pre++xs++[x]++zs++q) W3))):=Ω (fun zs W2 hz hk2 hj2=>
     (IH.out (n-1) s.els loop _ (pre++xs++[x]++zs) W2 (hw0.trans hk2.1) (Nat.le_trans hsz hk2.1.size) h3 hj2 (by
      have hzl:zs.length=(allL dd s.thn l1).length:=by rw [←hz,List.length_map]
      rw [List.length_append,List.length_append,List.length_append,List.length_singleton];omega)).mono fun e W3 h=>h.elim
      (fun ⟨he,hu,hk3⟩=>.inl ⟨he,Ω hu,Ω (hk2.trans hk3)⟩)
      (fun ⟨he,hq⟩=>.inr ⟨he,Ω hq⟩))
    have HTK:=Ω htk
    have HXS:=Ω hxs
    have HXP:=Ω hxpr
    have HKP:=Ω hkp
    have HL1:=Ω hl1
    clear hcell hcw hel hform htk hpf h1 h2 h3 hw0 hxd hxpr hxe hxl hNl hlens hkA hGA hkp hxs hbl hcl hJs hJ hs hkq hl1
    cases loop
    ·obtain rfl:l1=kq:=HL1.out
     gi_wp2_with (first
      |((try refine ⟨hdd _,?_⟩);refine hR.mono ?_;clear hR;rintro e W1 (⟨rfl,hj1,hk1,hg1,c0,c3,c4⟩|⟨rfl,hx1⟩))
      |((try refine ⟨hdd _,?_⟩);gi_at_call 73;refine (HT.out _ hk1.out hj1.out hg1.out).mono ?_;clear HT;rintro e W2 (⟨rfl,hz,hk2,c44⟩|⟨rfl,hq⟩))
      |((try refine ⟨hdd _,?_⟩);gi_at_call 73;obtain ⟨zs,hz1,hj2⟩:=hz.out;refine (HE.out _ _ hz1 hk2.out hj2).mono ?_;have HZ:=Ω hz1;clear hz1 hj2;rintro e W3 (⟨rfl,hu,hk3⟩|⟨rfl,hq3⟩)))
     ·go_roundw
      case rel=>
       obtain ⟨us,hu1,hj3⟩:=hu.out
       refine ⟨k+1,by omega,by go_num,⟨xs++[x]++zs++us,?_,by simpa [List.append_assoc] using hj3⟩,HKP.out.trans hk3.out⟩
       rw [HTK.out,List.map_append,List.map_append,List.map_append,HXS.out,HZ.out,hu1]
       simp [HXP.out,List.append_assoc]
      case measure=>simp [intOf];omega
     ·go_ret
      obtain ⟨q,hq1,hq2⟩:=hq3.out
      refine .inr ⟨rfl,xs++[x]++zs++q,?_,by simpa [List.append_assoc] using hq2⟩
      refine List.IsPrefix.trans ?_ (allL_pre (k+1))
      rw [HTK.out,List.map_append,List.map_append,List.map_append,HXS.out,HZ.out]
      obtain ⟨r,hr⟩:=hq1
      exact ⟨r,by rw [←hr];simp [HXP.out,List.append_assoc]⟩
     ·go_ret
      obtain ⟨q,hq1,hq2⟩:=hq.out
      refine .inr ⟨rfl,xs++[x]++q,?_,by simpa [List.append_assoc] using hq2⟩
      refine List.IsPrefix.trans ?_ (allL_pre (k+1))
      rw [HTK.out,List.map_append,List.map_append,HXS.out]
      obtain ⟨r,hr⟩:=hq1
      exact ⟨r++allL dd s.els false,by rw [←hr];simp [HXP.out,List.append_assoc]⟩
     ·go_ret
      refine .inr ⟨rfl,xs++[x],?_,by simpa [List.append_assoc] using hx1.out⟩
      refine List.IsPrefix.trans ?_ (allL_pre (k+1))
      rw [HTK.out,List.map_append,HXS.out]
      exact ⟨allL dd s.thn l1++allL dd s.els false,by simp [HXP.out]⟩
    ·obtain rfl:l1=true:=HL1.out
     gi_wp2_with (first
      |((try refine ⟨hdd _,?_⟩);refine hR.mono ?_;clear hR;rintro e W1 (⟨rfl,hj1,hk1,hg1,c0,c3,c4⟩|⟨rfl,hx1⟩))
      |((try refine ⟨hdd _,?_⟩);gi_at_call 73;refine (HT.out _ hk1.out hj1.out hg1.out).mono ?_;clear HT;rintro e W2 (⟨rfl,hz,hk2,c44⟩|⟨rfl,hq⟩))
      |((try refine ⟨hdd _,?_⟩);gi_at_call 73;obtain ⟨zs,hz1,hj2⟩:=hz.out;refine (HE.out _ _ hz1 hk2.out hj2).mono ?_;have HZ:=Ω hz1;clear hz1 hj2;rintro e W3 (⟨rfl,hu,hk3⟩|⟨rfl,hq3⟩)))
     ·go_roundw
      case rel=>
       obtain ⟨us,hu1,hj3⟩:=hu.out
       refine ⟨k+1,by omega,by go_num,⟨xs++[x]++zs++us,?_,by simpa [List.append_assoc] using hj3⟩,HKP.out.trans hk3.out⟩
       rw [HTK.out,List.map_append,List.map_append,List.map_append,HXS.out,HZ.out,hu1]
       simp [HXP.out,List.append_assoc]
      case measure=>simp [intOf];omega
     ·go_ret
      obtain ⟨q,hq1,hq2⟩:=hq3.out
      refine .inr ⟨rfl,xs++[x]++zs++q,?_,by simpa [List.append_assoc] using hq2⟩
      refine List.IsPrefix.trans ?_ (allL_pre (k+1))
      rw [HTK.out,List.map_append,List.map_append,List.map_append,HXS.out,HZ.out]
      obtain ⟨r,hr⟩:=hq1
      exact ⟨r,by rw [←hr];simp [HXP.out,List.append_assoc]⟩
     ·go_ret
      obtain ⟨q,hq1,hq2⟩:=hq.out
      refine .inr ⟨rfl,xs++[x]++q,?_,by simpa [List.append_assoc] using hq2⟩
      refine List.IsPrefix.trans ?_ (allL_pre (k+1))
      rw [HTK.out,List.map_append,List.map_append,HXS.out]
      obtain ⟨r,hr⟩:=hq1
      exact ⟨r++allL dd s.els true,by rw [←hr];simp [HXP.out,List.append_assoc]⟩
     ·go_ret
      refine .inr ⟨rfl,xs++[x],?_,by simpa [List.append_assoc] using hx1.out⟩
      refine List.IsPrefix.trans ?_ (allL_pre (k+1))
      rw [HTK.out,List.map_append,HXS.out]
      exact ⟨allL dd s.thn true++allL dd s.els true,by simp [HXP.out]⟩
   ·obtain rfl:k=l.length:=by omega
    have HXS:=Ω hxs
    have HJS:=Ω hJs
    have HKP:=Ω hkp
    clear hxs hJs hkp hJ
    gi_wp2
    go_ret
    exact .inl ⟨rfl,⟨xs,by have:=HXS.out;rw [List.take_length] at this;exact this,HJS.out⟩,HKP.out⟩
theorem all1_in (F:Fence) (hd:F.depth=none) (n:Nat) (h72:F.fn 72) (h73:F.fn 73) (hro:F.round=none) (y Bl Bb n₀ B N D:Nat) (w0:World) (hnB:n₀≤B) (J Jx:List (XS w0 n₀ D)→World→Prop) (hJa:∀s W o,J s W→J s (W.alloc o))
  (hY:∀pre (x:XS w0 n₀ D) W,J pre W→pre.length<N→YieldAt F (n-1) Tryz.prog y x.encs W fun e W'=>
   (e=.returned (.bool true)∧J (pre++[x]) W'∧KpB n₀ B W W')∨(e=.returned (.bool false)∧Jx (pre++[x]) W'))
  (l:List LStmt) (loop:Bool) (v:Value) (W:World) (hbw:Below n₀ w0 W) (hBW:B≤W.heap.size) (hv:SlR w0 (· < n₀) 5 (RStmt D w0 (· < n₀)) v l) (hbl:W.cell? ⟨Bl,0,none⟩=some v) (hbb:W.cell? ⟨Bb,0,none⟩=some (.bool loop)) (h0:J [] W) (hN:(allL D l loop).length≤N) :
  CallsIn F n Tryz.prog 72 #[.func (.yield y) #[] #[],.pointer (some ⟨Bl,0,none⟩),.pointer (some ⟨Bb,0,none⟩)] W fun e W'=>(∃v,e=.returned v)∧
   ((∃ys:List (XS w0 n₀ D),ys.map XS.pr=allL D l loop∧J ys W')∨(∃pre:List (XS w0 n₀ D),pre.map XS.pr <+: allL D l loop∧Jx pre W')):=by
 have hdd:∀k:Nat,(F.depth.isSome=true→1≤k):=fun k h=>by rw [hd] at h;cases h
 have hp:=walk1_any F hd h73 hro y n₀ B N D w0 hnB J Jx hJa (fun m pre x W hj hl=>yield_any hd m (hY pre x W hj hl)) D (Nat.le_refl _) (n-1) l loop v [] W hbw hBW hv h0 (by simpa using hN)
 obtain ⟨A,c,rfl,_,_⟩:=hv.val
 clear hv hY
 refine callsIn_of_wp Tryz.func72 rfl h72 ?_ hro
 simp only [Tryz.ntmps72,List.size_toArray,List.length_cons,List.length_nil,Nat.reduceAdd,Nat.reduceSub,Array.replicate_succ,Array.replicate_zero,List.push_toArray,List.append_toArray,List.nil_append,List.cons_append]
 gi_wp2_with ((try refine ⟨hdd _,?_⟩);gi_at_call 73;refine hp.mono ?_;clear hp;rintro e W1 (⟨rfl,⟨xs,hx,hJ1⟩,_⟩|⟨rfl,q,hq,hx⟩))
 ·go_end0
  exact ⟨⟨_,rfl⟩,.inl ⟨xs,hx,by simpa using hJ1⟩⟩
 ·go_end0
  exact ⟨⟨_,rfl⟩,.inr ⟨q,hq,by simpa using hx⟩⟩
theorem all_in (F:Fence) (n:Nat) (h5:F.fn 53) (hro:F.round=none) (A:Option Addr) (len cap:Nat) (b:Bool) (w:World) :
  CallsIn F n Tryz.prog 53 #[.slice A len cap,.bool b] w fun e w'=>e=.returned (.func (.func 72) #[] #[.pointer (some ⟨w.heap.size,0,none⟩),.pointer (some ⟨w.heap.size+1,0,none⟩)])∧w'=(w.alloc (.cells #[.slice A len cap] 43)).alloc (.cells #[.bool b] 4):=by
 refine callsIn_of_wp Tryz.func53 rfl h5 ?_ hro
 simp only [Tryz.ntmps53,List.size_toArray,List.length_cons,List.length_nil,Nat.reduceAdd,Nat.reduceSub,Array.replicate_succ,Array.replicate_zero,List.push_toArray,List.append_toArray,List.nil_append,List.cons_append]
 gi_wp2
 go_ret
 exact ⟨rfl,rfl⟩
theorem all_stops (F:Fence) (hd:F.depth=none) (n:Nat) (h72:F.fn 72) (h73:F.fn 73) (hro:F.round=none) (Bl Bb n₀ D:Nat) (w0 w:World) (hb0:Below n₀ w0 w) (hn:n₀≤w.heap.size) (l:List LStmt) (loop:Bool) (v:Value)
  (hv:SlR w0 (· < n₀) 5 (RStmt D w0 (· < n₀)) v l) (hBl:Bl<w.heap.size) (hBb:Bb<w.heap.size) (hbl:w.cell? ⟨Bl,0,none⟩=some v) (hbb:w.cell? ⟨Bb,0,none⟩=some (.bool loop)) :
  SeqStopsK F n Tryz.prog 72 #[.pointer (some ⟨Bl,0,none⟩),.pointer (some ⟨Bb,0,none⟩)] (fun x:XS w0 n₀ D=>x.encs) (KpB n₀ w.heap.size) (fun ys=>ys.map XS.pr=allL D l loop) (fun pre=>pre.map XS.pr <+: allL D l loop) (allL D l loop).length w:=fun y J Jx W hW hJ _ hY h0=>
 all1_in F hd n h72 h73 hro y Bl Bb n₀ w.heap.size (allL D l loop).length D w0 hn J Jx (fun s W1 o h=>hJ s W1 _ none h (World.grownBy_alloc W1 o none) (fun r e=>by cases e)) hY l loop v W (hb0.trans (hW.mono hn)) hW.size hv ((hW.cell (p:=⟨Bl,0,none⟩) hBl).trans hbl) ((hW.cell (p:=⟨Bb,0,none⟩) hBb).trans hbb) h0 (Nat.le_refl _)
end
end Go.Proofs.YtmignlclfbaifaaGreat
