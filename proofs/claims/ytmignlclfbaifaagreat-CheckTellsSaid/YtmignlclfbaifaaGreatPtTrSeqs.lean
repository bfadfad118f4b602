/- The library's functions that are leaned on: their bodies are those that the shelf's contracts speak of. Printed by wip/gen_lays.py. slices.Values, slices.AppendSeq, slices.Collect, slices.Sorted at texts: a row's texts, sorted, in a row of the call's own. What check.twice tells: whether one of some texts is there twice. -/
import Derived.Test.YtmignlclfbaifaaGreatRows
import Derived.Shelf.SlLaysE
import Derived.Shelf.SlLaysE0
import Derived.Shelf.SlLaysM
import Derived.Shelf.SlLaysZ
import Derived.Test.YtmignlclfbaifaaGreatPtGen
import Derived.RangeFuncNested
import Derived.RangeFuncBound
import Derived.RangeFuncCalls
import Derived.RangeFuncLeaves
import Derived.RangeFuncBox
import Derived.Shelf.Abstract
import Derived.Shelf.RegionOpen
import Derived.OwnWalkIn
import Derived.TacticsInMore
import Derived.LoopNIn
import Derived.LoopIn
import Derived.Maps.AppendAt
import Derived.Shelf.SortM.Plain
import Derived.Shelf.SortM.SortNone
import Derived.Sort.OwnSorted
import Derived.Shelf.SlicesE.Clone
import Derived.Shelf.SlicesE.Compact
import Derived.Test.YtmignlclfbaifaaGreatPtTrBase
namespace Go.Proofs.YtmignlclfbaifaaGreat
open Go.Shelf Go.Proofs
def Tryz.sortS_ren:Go.Shelf.Ren:=⟨fun|6=>67|8=>93|9=>92|19=>109|20=>110|21=>100|22=>101|23=>102|24=>103|25=>104|26=>105|27=>106|28=>107|29=>108|36=>115|31=>116|32=>117|37=>118|38=>119|39=>120|41=>122|n=>n,fun|27=>47|29=>9|3=>3|32=>126|26=>47|0=>0|44=>141|46=>143|4=>4|36=>133|35=>132|41=>138|5=>5|9=>9|53=>147|57=>151|63=>153|64=>154|n=>n,fun|n=>n⟩
theorem Tryz.sortS:Go.Proofs.SlLaysM.n6 Tryz.prog Tryz.sortS_ren:={
 mixed:=by kernel_rfl,
 f6:=⟨Tryz.f67.name,by decide,Tryz.func67.trans (congrArg some (by kernel_rfl))⟩,
 f8:=Tryz.func93.trans (congrArg some (by kernel_rfl)),
 f9:=⟨Tryz.f92.name,by decide,Tryz.func92.trans (congrArg some (by kernel_rfl))⟩,
 f19:=Tryz.func109.trans (congrArg some (by kernel_rfl)),
 f20:=Tryz.func110.trans (congrArg some (by kernel_rfl)),
 f21:=⟨Tryz.f100.name,by decide,Tryz.func100.trans (congrArg some (by kernel_rfl))⟩,
 f22:=⟨Tryz.f101.name,by decide,Tryz.func101.trans (congrArg some (by kernel_rfl))⟩,
 f23:=⟨Tryz.f102.name,by decide,Tryz.func102.trans (congrArg some (by kernel_rfl))⟩,
 f24:=⟨Tryz.f103.name,by decide,Tryz.func103.trans (congrArg some (by kernel_rfl))⟩,
 f25:=⟨Tryz.f104.name,by decide,Tryz.func104.trans (congrArg some (by kernel_rfl))⟩,
 f26:=⟨Tryz.f105.name,by decide,Tryz.func105.trans (congrArg some (by kernel_rfl))⟩,
 f27:=⟨Tryz.f106.name,by decide,Tryz.func106.trans (congrArg some (by kernel_rfl))⟩,
 f28:=⟨Tryz.f107.name,by decide,Tryz.func107.trans (congrArg some (by kernel_rfl))⟩,
 f29:=⟨Tryz.f108.name,by decide,Tryz.func108.trans (congrArg some (by kernel_rfl))⟩,
 f31:=Tryz.func116.trans (congrArg some (by kernel_rfl)),
 f32:=Tryz.func117.trans (congrArg some (by kernel_rfl)),
 f36:=⟨Tryz.f115.name,by decide,Tryz.func115.trans (congrArg some (by kernel_rfl))⟩,
 f37:=⟨Tryz.f118.name,by decide,Tryz.func118.trans (congrArg some (by kernel_rfl))⟩,
 f38:=⟨Tryz.f119.name,by decide,Tryz.func119.trans (congrArg some (by kernel_rfl))⟩,
 f39:=⟨Tryz.f120.name,by decide,Tryz.func120.trans (congrArg some (by kernel_rfl))⟩,
 f41:=⟨Tryz.f122.name,by decide,Tryz.func122.trans (congrArg some (by kernel_rfl))⟩,
 t0:=Tryz.underlying0,
 a0:=Tryz.isAgg0,
 z0:=Tryz.sizeOf0,
 v0:=Tryz.zeroValue0,
 t3:=Tryz.underlying3,
 a3:=Tryz.isAgg3,
 z3:=Tryz.sizeOf3,
 v3:=Tryz.zeroValue3,
 t4:=Tryz.underlying4,
 a4:=Tryz.isAgg4,
 z4:=Tryz.sizeOf4,
 v4:=Tryz.zeroValue4,
 t5:=Tryz.underlying5,
 a5:=Tryz.isAgg5,
 z5:=Tryz.sizeOf5,
 v5:=Tryz.zeroValue5,
 t9:=Tryz.underlying9,
 a9:=Tryz.isAgg9,
 z9:=Tryz.sizeOf9,
 v9:=Tryz.zeroValue9,
 t26:=Tryz.underlying47,
 a26:=Tryz.isAgg47,
 z26:=Tryz.sizeOf47,
 v26:=Tryz.zeroValue47,
 t27:=Tryz.underlying47,
 a27:=Tryz.isAgg47,
 z27:=Tryz.sizeOf47,
 v27:=Tryz.zeroValue47,
 t29:=Tryz.underlying9,
 a29:=Tryz.isAgg9,
 z29:=Tryz.sizeOf9,
 v29:=Tryz.zeroValue9,
 t32:=Tryz.underlying126,
 a32:=Tryz.isAgg126,
 z32:=Tryz.sizeOf126,
 v32:=Tryz.zeroValue126,
 t35:=Tryz.underlying132,
 a35:=Tryz.isAgg132,
 z35:=Tryz.sizeOf132,
 v35:=Tryz.zeroValue132,
 t36:=Tryz.underlying133,
 a36:=Tryz.isAgg133,
 z36:=Tryz.sizeOf133,
 v36:=Tryz.zeroValue133,
 t41:=Tryz.underlying138,
 a41:=Tryz.isAgg138,
 z41:=Tryz.sizeOf138,
 v41:=Tryz.zeroValue138,
 t44:=Tryz.underlying141,
 a44:=Tryz.isAgg141,
 z44:=Tryz.sizeOf141,
 v44:=Tryz.zeroValue141,
 t46:=Tryz.underlying143,
 a46:=Tryz.isAgg143,
 z46:=Tryz.sizeOf143,
 v46:=Tryz.zeroValue143,
 t53:=Tryz.underlying147,
 a53:=Tryz.isAgg147,
 z53:=Tryz.sizeOf147,
 v53:=Tryz.zeroValue147,
 t57:=Tryz.underlying151,
 a57:=Tryz.isAgg151,
 z57:=Tryz.sizeOf151,
 v57:=Tryz.zeroValue151,
 t63:=Tryz.underlying153,
 a63:=Tryz.isAgg153,
 z63:=Tryz.sizeOf153,
 v63:=Tryz.zeroValue153,
 t64:=Tryz.underlying154,
 a64:=Tryz.isAgg154,
 z64:=Tryz.sizeOf154,
 v64:=Tryz.zeroValue154 }
def Tryz.cloneS_ren:Go.Shelf.Ren:=⟨fun|41=>48|n=>n,fun|22=>47|23=>9|4=>4|n=>n,fun|n=>n⟩
theorem Tryz.cloneS:Go.Proofs.SlLaysE0.n41 Tryz.prog Tryz.cloneS_ren:={
 mixed:=by kernel_rfl,
 f41:=⟨Tryz.f48.name,by decide,Tryz.func48.trans (congrArg some (by kernel_rfl))⟩,
 t4:=Tryz.underlying4,
 a4:=Tryz.isAgg4,
 z4:=Tryz.sizeOf4,
 v4:=Tryz.zeroValue4,
 t22:=Tryz.underlying47,
 a22:=Tryz.isAgg47,
 z22:=Tryz.sizeOf47,
 v22:=Tryz.zeroValue47 }
def Tryz.compactS_ren:Go.Shelf.Ren:=⟨fun|43=>47|n=>n,fun|22=>47|23=>9|3=>3|4=>4|0=>0|n=>n,fun|n=>n⟩
theorem Tryz.compactS:Go.Proofs.SlLaysE.n43 Tryz.prog Tryz.compactS_ren:={
 mixed:=by kernel_rfl,
 f43:=⟨Tryz.f47.name,by decide,Tryz.func47.trans (congrArg some (by kernel_rfl))⟩,
 t0:=Tryz.underlying0,
 a0:=Tryz.isAgg0,
 z0:=Tryz.sizeOf0,
 v0:=Tryz.zeroValue0,
 t3:=Tryz.underlying3,
 a3:=Tryz.isAgg3,
 z3:=Tryz.sizeOf3,
 v3:=Tryz.zeroValue3,
 t4:=Tryz.underlying4,
 a4:=Tryz.isAgg4,
 z4:=Tryz.sizeOf4,
 v4:=Tryz.zeroValue4,
 t22:=Tryz.underlying47,
 a22:=Tryz.isAgg47,
 z22:=Tryz.sizeOf47,
 v22:=Tryz.zeroValue47,
 a23:=Tryz.isAgg9,
 z23:=Tryz.sizeOf9 }
end Go.Proofs.YtmignlclfbaifaaGreat
namespace Go.Proofs.YtmignlclfbaifaaGreat
open Go.RowKit Go.Sort Go.Shelf
def encT (s:ByteArray):Value:=.string s
theorem info_string:(Tryz.prog.info? 9).map (fun i=>(i.zero,i.size,i.bytes))=some (some (.string ⟨#[]⟩),1,16):=by kernel_rfl
section
attribute [local go_sem] Oper.semAt_some
set_option maxRecDepth 100000
set_option maxHeartbeats 2000000
theorem vals1_in (F:Fence) (n:Nat) (h7:F.fn 68) (hro:F.round=none) (hn:1≤n) (y Bs n₀:Nat) (A:Option Addr) (cap:Nat) (l:List ByteArray) (hlen:l.length≤maxLen) (J Jx:List ByteArray→World→Prop)
  (hY:∀pre x W,J pre W→pre.length<l.length→YieldAt F (n-1) Tryz.prog y #[.string x] W fun e W'=>
   (e=.returned (.bool true)∧J (pre++[x]) W'∧Below n₀ W W')∨(e=.returned (.bool false)∧Jx (pre++[x]) W'))
  (W:World) (hBs:W.cell? ⟨Bs,0,none⟩=some (.slice A l.length cap)) (hS:SlR W (· < n₀) 1 RStr (.slice A l.length cap) l) (h0:J [] W) :
  CallsIn F n Tryz.prog 68 #[.func (.yield y) #[] #[],.pointer (some ⟨Bs,0,none⟩)] W fun e W'=>(∃v,e=.returned v)∧
   ((∃ys,ys=l∧J ys W')∨(∃pre,pre <+: l∧Jx pre W')):=by
 have HS:=Ω hS
 have HY:=Ω hY
 clear hS hY
 unfold maxLen at hlen
 refine callsIn_of_wp Tryz.func68 rfl h7 ?_ hro
 simp only [Tryz.ntmps68,List.size_toArray,List.length_cons,List.length_nil,Nat.reduceAdd,Nat.reduceSub,Array.replicate_succ,Array.replicate_zero,List.push_toArray,List.append_toArray,List.nil_append,List.cons_append]
 gi_wp2
 gi_loopw [7] (fun i wr=>∃k:Nat,k≤l.length∧i=.int .i64 k∧J (l.take k) wr∧Below n₀ W wr)
  (fun i _=>l.length-(intOf i).toNat)
 case atStart=>exact ⟨0,Nat.zero_le _,rfl,h0,Below.refl _ _⟩
 case round=>
  obtain ⟨k,hk,rfl,hJs,hnx⟩:=hrel
  by_cases hlt:k<l.length
  ·obtain ⟨b,off,c',hform,_,_,hbl,hel⟩:=HS.out.form (by omega)
   obtain ⟨cs,hcl,hcs,hcell⟩:=hel k hlt
   obtain ⟨rfl,rfl⟩:A=some ⟨b,off,none⟩∧cap=c':=by injection hform with h1 _ h2;exact ⟨h1,h2⟩
   obtain ⟨x,hx⟩:∃x,x=l[k]:=⟨_,rfl⟩
   rw [←hx] at hcs
   obtain rfl:cs=[.string x]:=hcs
   have hcw:=hcell.keep (hnx.block b hbl)
   have i0:wr.cell? ⟨b,off+k,none⟩=some (.string x):=by have h:=hcw.at_ (j:=0) rfl;simpa using h
   have htk:l.take (k+1)=l.take k++[x]:=by rw [hx];exact List.take_succ_eq_append_getElem hlt
   obtain ⟨fn,tmps,assign,body,hy,hR⟩:=HY.out _ x wr hJs (by rw [List.length_take];omega)
   have HTK:=Ω htk
   have HX:=Ω hx
   have HNX:=Ω hnx
   clear hcell hcw hel hform htk hx hJs hnx
   gi_wp2
   refine hR.mono ?_
   rintro e W3 (⟨rfl,hJ3,hk3⟩|⟨rfl,hJx3⟩)
   ·gi_wp2
    go_roundw
    case rel=>exact ⟨k+1,by omega,by simp,by rw [HTK.out];exact hJ3,HNX.out.trans hk3⟩
    case measure=>simp [intOf];omega
   ·gi_wp2
    refine bodyPost_ret (results_none rfl _ _ _) rfl ?_
    exact ⟨⟨_,rfl⟩,.inr ⟨_,by rw [←HTK.out];exact List.take_prefix _ _,hJx3⟩⟩
  ·obtain rfl:k=l.length:=by omega
   gi_wp2
   go_end0
   exact ⟨⟨_,rfl⟩,.inl ⟨_,List.take_length,hJs⟩⟩
theorem vals_in (F:Fence) (n:Nat) (h5:F.fn 46) (hro:F.round=none) (a:Option Addr) (len cap:Nat) (w:World) :
  CallsIn F n Tryz.prog 46 #[.slice a len cap] w fun e w'=>e=.returned (.func (.func 68) #[] #[.pointer (some ⟨w.heap.size,0,none⟩)])∧w'=w.alloc (.cells #[.slice a len cap] 47):=by
 refine callsIn_of_wp Tryz.func46 rfl h5 ?_ hro
 simp only [Tryz.ntmps46,List.size_toArray,List.length_cons,List.length_nil,Nat.reduceAdd,Nat.reduceSub,Array.replicate_succ,Array.replicate_zero,List.push_toArray,List.append_toArray,List.nil_append,List.cons_append]
 gi_wp2
 go_ret
 exact ⟨rfl,rfl⟩
theorem vals_stops (F:Fence) (n:Nat) (h7:F.fn 68) (hro:F.round=none) (hn:1≤n) (Bs n₀:Nat) (A:Option Addr) (cap:Nat) (l:List ByteArray) (hlen:l.length≤maxLen) (w:World) (hBs:Bs<w.heap.size) (hn₀:n₀≤w.heap.size)
  (hc:w.cell? ⟨Bs,0,none⟩=some (.slice A l.length cap)) (hS:SlR w (· < n₀) 1 RStr (.slice A l.length cap) l) :
  SeqStopsK F n Tryz.prog 68 #[.pointer (some ⟨Bs,0,none⟩)] (fun x:ByteArray=>#[Value.string x]) (Below n₀) (fun ys=>ys=l) (fun pre=>pre <+: l) l.length w:=fun y J Jx W hW _ _ hY h0=>
 vals1_in F n h7 hro hn y Bs n₀ A cap l hlen J Jx hY W ((hW.cell (p:=⟨Bs,0,none⟩) hBs).trans hc) (hS.imp (fun _ h=>h) (fun b h=>hW.block b (ltle h hn₀)) fun _ _ _ r=>r) h0
theorem collect_in (F:Fence) (n:Nat) (h3:F.fn 91) (h5:F.fn 68) (hro:F.round=none) (hn:3≤n) (Bs:Nat) (A:Option Addr) (cap:Nat) (l:List ByteArray) (hl:l.length≤1000) (w:World) (hBs:Bs<w.heap.size)
  (hc:w.cell? ⟨Bs,0,none⟩=some (.slice A l.length cap)) (hS:SlR w (· < w.heap.size) 1 RStr (.slice A l.length cap) l) :
  CallsIn F n Tryz.prog 91 #[.slice none 0 0,.func (.func 68) #[] #[.pointer (some ⟨Bs,0,none⟩)]] w fun e W'=>∃v,e=.returned v∧W'.ownsRow w.heap.size 9 1 v l.length (l.map encT)∧(v=.slice none 0 0↔l=[])∧Below w.heap.size w W':=by
 have h1:1≤n:=by omega
 obtain ⟨i0,hi,hz0,hz1,hz2⟩:=info_parts info_string
 have bO:=Boxed.new w 47 (.slice none 0 0)
 have hB0:Below w.heap.size w (w.alloc (.cells #[.slice none 0 0] 47)):=below1 _ _
 have hst:=vals_stops F (n-1) h5 hro (by omega) Bs w.heap.size A cap l (by unfold maxLen;omega) (w.alloc (.cells #[.slice none 0 0] 47)) (by simp;omega) (by simp) ((hB0.cell (p:=⟨Bs,0,none⟩) hBs).trans hc) (hS.imp (fun _ h=>h) (fun b h=>hB0.block b h) fun _ _ _ r=>r)
 clear hS hc
 refine callsIn_of_wp_marks Tryz.func91 rfl h3 ?_ hro
 simp only [Tryz.ntmps91,List.size_toArray,List.length_cons,List.length_nil,Nat.reduceAdd,Nat.reduceSub,Array.replicate_succ,Array.replicate_zero,List.push_toArray,List.append_toArray,List.nil_append,List.cons_append]
 gi_wp2
 refine wpIn_rangeFunc_ownG hro h1 (gf:=68) (lb:=#[.pointer (some ⟨Bs,0,none⟩)]) rfl h5 (enters_of Tryz.func68 (by kernel_rfl) rfl)
  hst belowK_t (belowK_b (by simp)) (Below.refl _ _) (fun _=>rfl)
  (fun pre W=>(∃v,Boxed W w.heap.size 47 v∧W.ownsRow w.heap.size 9 1 v pre.length (pre.map encT)∧(v=.slice none 0 0↔pre=[]))∧Below w.heap.size w W)
  (fun _ _ _=>False)
  (OwnFrom.and (Own.from (holdsRow_own w.heap.size w.heap.size 47 9 1 (fun pre=>pre.length) (fun pre=>pre.map encT) (fun pre v=>v=.slice none 0 0↔pre=[])) _) (ownFrom_below (Nat.le_refl _) (by simp)))
  (fun _ _ _ _ _ hs _ _=>hs)
  ⟨⟨_,bO,World.ownsRow_nil _ _ _ _,by simp⟩,hB0⟩
  (fun x=>{ tmps:=#[.slice none 0 0,.func (.func 68) #[] #[.pointer (some ⟨Bs,0,none⟩)],.pointer (some ⟨w.heap.size,0,none⟩),undef,.slice none 0 0,.string x,.func (.func 68) #[] #[.pointer (some ⟨Bs,0,none⟩)],.string x,undef,undef,undef,undef,undef],defers:=[] }) ?assign ?body ?done ?stop
 case assign=>
  intro l x W K hK
  gi_wp2
  exact hK
 case body=>
  rintro y pre x W ⟨⟨v,hv,hrow,hnil⟩,hB⟩ hlt
  have hc:=hv.cell
  gi_wp2_with (gi_at_builtin;refine wpListIn_append_own _ rfl _ _ 47 rfl w.heap.size 9 i0 (.string ⟨#[]⟩) 1 16 Tryz.underlying47 hi hz0 hz1 hz2 rfl (by decide) _ _ _ rfl (hrow.alloc _) ⟨W.heap.size,0,none⟩ 1 1 [.string x] rfl rfl (cell_one_new _ _ _) (by simp [Value.oneCell']) (by unfold maxLen;omega) (by omega) (by have:=hB.size;simp;omega) ?_;intro v' w1 hown' hgrow _;obtain ⟨g',cap',rfl⟩:=ownsRow_succ hown';obtain ⟨hv1,hv2,hr2,hk2,hb2⟩:=hv.appended (by decide) hrow hB.size (Nat.le_refl _) hown' hgrow;have hc1:=hv1.cell;have hf1:=hv1.frozen)
  exact ⟨hk2.from _,hb2,⟨_,hv2,by simpa [encT] using hr2,by simp⟩,hB.trans hb2⟩
 case done=>
  rintro D ys W hD rfl ⟨⟨v,hv,hrow,hnil⟩,hB⟩ hK
  have hc:=hv.cell
  gi_wp2
  refine ⟨by simp,.inl ⟨_,_,rfl,run_takeDeferred hK,?_⟩⟩
  exact ⟨_,results_tmp rfl _ _ _,v,rfl,ownsRow_putObj hrow _ hK rfl,hnil,hB.trans (belowK_b (w:=w) (Nat.le_refl _) W D _ _ (by simp at hD;omega) hK rfl rfl)⟩
 case stop=>
  rintro D c pre W _ _ h _
  exact h.elim
end
end Go.Proofs.YtmignlclfbaifaaGreat
namespace Go.Proofs.YtmignlclfbaifaaGreat
open Go.RowKit Go.Sort Go.Shelf
theorem encs_eq (l:List ByteArray):l.map encT=(l.map (·.data.toList)).map encStr:=by simp [encT,Function.comp_def]
theorem strs_of_own {w:World} {base:Nat} {e:TypeId} {v:Value} {n:Nat} {l:List ByteArray} {ok:Nat→Prop} (h:w.ownsRow base e 1 v n (l.map encT)) (hok:∀g,v.ownBlock=some g→ok g):SlR w ok 1 RStr v l:=by
 have hf:((l.map encT).map fun x=>[x]).flatten=l.map encT:=flatten_single _
 have hn:n=l.length:=by have:=h.1;simp at this;omega
 refine SlR.of_own (css:=(l.map encT).map fun x=>[x]) (by rw [hf];exact h) hn (by simp) ?_ ?_ hok
 ·intro cs hcs
  obtain ⟨_,_,rfl⟩:=List.mem_map.1 hcs
  rfl
 ·intro i h1 h2
  simp [RStr,encT]
theorem sort_names (base g cap:Nat) (l:List ByteArray) (w:World) (hrow:w.ownsRow base 9 1 (.slice (some ⟨g,0,none⟩) l.length cap) l.length (l.map encT)) (hl:l.length≤1000) :
  Calls Tryz.prog 67 #[.slice (some ⟨g,0,none⟩) l.length cap] w fun e w'=>e=.returned (.tuple #[])∧∃l':List ByteArray,l'.Perm l∧(l'.map (·.data.toList)).Pairwise (fun a b=>a≤b)∧w'.ownsRow base 9 1 (.slice (some ⟨g,0,none⟩) l.length cap) l.length (l'.map encT)∧w.grownBy w' (some g):=by
 rcases hrow.2 with ⟨hnil,_⟩|⟨g',cap',cur,hv,hbase,hb,h1,h2,h3,h4⟩
 ·cases hnil
 ·obtain ⟨rfl,rfl⟩:g=g'∧cap=cap':=by injection hv with h5 _ h6;injection h5 with h5;injection h5 with h5;exact ⟨h5,h6⟩
  have hH:Holds encStr w g 0 (l.map (·.data.toList)).toArray:=holds_of_block hb (by rw [encs_eq] at h4;simpa using h4)
  have hc:=AnyM.slices_Sort_string Tryz.sortS g 0 cap (l.map (·.data.toList)) w hH (Array.getElem?_eq_some_iff.1 hb).1 (by simp;omega)
  rw [List.length_map] at hc
  refine hc.mono ?_
  rintro e w' ⟨he,n,os,rfl⟩
  have hp:=List.mergeSort_perm (l.map (·.data.toList)) (fun x y=>decide (x≤y))
  have hlen:=hp.length_eq
  have hsrt:((l.map (·.data.toList)).mergeSort (fun x y=>decide (x≤y))).Pairwise (fun a b=>a≤b):=by
   refine (List.pairwise_mergeSort (le:=fun x y:List UInt8=>decide (x≤y)) (fun a b c h1 h2=>?_) (fun a b=>?_) _).imp fun h=>of_decide_eq_true h
   ·exact dT (List.le_trans (of_decide_eq_true h1) (of_decide_eq_true h2))
   ·rw [Bool.or_eq_true,decide_eq_true_eq,decide_eq_true_eq];exact List.le_total a b
  generalize hss:(l.map (·.data.toList)).mergeSort (fun x y=>decide (x≤y))=ss at *
  refine ⟨he,ss.map (fun x=>⟨x.toArray⟩),?_,by simpa [Function.comp_def] using hsrt,?_,grownBy_sorted _⟩
  ·have:=hp.map (fun x:List UInt8=>(⟨x.toArray⟩:ByteArray))
   simpa [Function.comp_def] using this
  ·have h:=ownsRow_sorted (n:=n) (os:=os) (ss:=l.map (·.data.toList)) (ts:=ss) hlen hbase hb (by simpa using h1) h2 h3
   rw [List.length_map] at h
   have e2:(ss.map (fun x=>(⟨x.toArray⟩:ByteArray))).map encT=ss.map encStr:=by simp [encT,Function.comp_def]
   rw [e2];exact h
theorem sizeOf_string (w:World):(Go.sizeOf 9).run Tryz.prog w=.ok 1 w:=by kernel_rfl
theorem zero_string (w:World):(zeroValue 9).run Tryz.prog w=.ok (.string ⟨#[]⟩) w:=by kernel_rfl
theorem clone_names (base g cap:Nat) (l:List ByteArray) (w:World) (hrow:w.ownsRow base 9 1 (.slice (some ⟨g,0,none⟩) l.length cap) l.length (l.map encT)) (hl:l.length≤1000) :
  Calls Tryz.prog 48 #[.slice (some ⟨g,0,none⟩) l.length cap] w fun e w'=>∃g4 c4,e=.returned (.slice (some ⟨g4,0,none⟩) l.length c4)∧w'.ownsRow w.heap.size 9 1 (.slice (some ⟨g4,0,none⟩) l.length c4) l.length (l.map encT)∧Below w.heap.size w w':=by
 obtain ⟨z0,hi0,hz0,hz1,hz2⟩:=info_parts info_string
 have hc:=Cells.of_own hrow rfl
 refine (AnyE.slices_Clone Tryz.cloneS z0 _ 1 16 hi0 hz0 hz1 hz2 rfl (by decide) sizeOf_string g 0 l.length cap (l.map encT) w (by simp) (by unfold maxLen;omega) (by omega) (fun j u hu=>by
  obtain ⟨hj,rfl⟩:=List.getElem?_eq_some_iff.1 hu
  exact hc j hj) (fun u hu=>by
  obtain ⟨s,_,rfl⟩:=List.mem_map.1 hu
  rfl)).mono ?_
 rintro e w' ⟨v',rfl,hr,hne,hb⟩
 replace hr:w'.ownsRow w.heap.size 9 1 v' l.length (l.map encT):=hr
 rcases hr.2 with ⟨hn4,_⟩|⟨g4,c4,_,hv4,_⟩
 ·exact absurd hn4 hne
 ·subst hv4
  exact ⟨g4,c4,rfl,hr,hb⟩
theorem keeps_nodup {l:List (List UInt8)} (h:l.Nodup):Lib.compactUpTo l.toArray l.toArray.size=l:=by
 rw [Lib.compactUpTo_all]
 ·rw [Lib.range_map_get]
 ·intro j hj
  have hj':j<l.length:=by simpa using hj
  unfold Lib.keeps
  refine dT ?_
  by_cases h0:j=0
  ·exact .inl h0
  ·refine .inr ?_
   have h1:j-1<l.length:=by omega
   simp only [List.getElem!_toArray]
   rw [getElem!_pos l j hj',getElem!_pos l (j-1) h1]
   exact fun e=>(List.pairwise_iff_getElem.1 h (j-1) j h1 hj' (by omega)) e.symm
theorem compact_texts (base g cap:Nat) (l:List ByteArray) (w:World) (hrow:w.ownsRow base 9 1 (.slice (some ⟨g,0,none⟩) l.length cap) l.length (l.map encT)) (hl:l.length≤1000) :
  Calls Tryz.prog 47 #[.slice (some ⟨g,0,none⟩) l.length cap] w fun e w'=>e=.returned (.slice (some ⟨g,0,none⟩) (Lib.compactUpTo (l.map fun s:ByteArray=>s.data.toList).toArray (l.map fun s:ByteArray=>s.data.toList).toArray.size).length cap)∧w.grownBy w' (some g):=by
 rcases hrow.2 with ⟨hnil,_⟩|⟨g',cap',cur,hv,hbase,hb,h1,h2,h3,h4⟩
 ·cases hnil
 ·obtain ⟨rfl,rfl⟩:g=g'∧cap=cap':=by injection hv with h5 _ h6;injection h5 with h5;injection h5 with h5;exact ⟨h5,h6⟩
  have hH:Holds encStr w g 0 (l.map (·.data.toList)).toArray:=holds_of_block hb (by rw [encs_eq] at h4;simpa using h4)
  have hgd:GuardAt Tryz.prog 9 encStr:=fun op a b x y w=>GuardAt.string Tryz.prog 9 op a b ⟨x.toArray⟩ ⟨y.toArray⟩ w
  have hbd:∀x y:List UInt8,((⟨x.toArray⟩:ByteArray).toList == (⟨y.toArray⟩:ByteArray).toList)=decide (x=y):=fun x y=>by rw [Bool.eq_iff_iff];simp [ByteArray.toList_eq]
  have heq:EqlAt Tryz.prog 9 encStr (fun x y=>decide (x=y)):=⟨fun x y w=>by show _=Result.ok (Value.bool (decide (x=y))) w;rw [←hbd];exact (EqlAt.string Tryz.prog 9).1 ⟨x.toArray⟩ ⟨y.toArray⟩ w,hgd⟩
  have hne:NeqAt Tryz.prog 9 encStr (fun x y=>decide (x=y)):=⟨fun x y w=>by show _=Result.ok (Value.bool (!decide (x=y))) w;rw [←hbd];exact (NeqAt.string Tryz.prog 9).1 ⟨x.toArray⟩ ⟨y.toArray⟩ w,hgd⟩
  have hc:=AnyE.slices_Compact Tryz.compactS encStr (fun _=>rfl) heq hne [] zero_string g 0 cap (l.map (·.data.toList)).toArray w hH (by simp;omega) (by simpa using h1)
  simp only [List.size_toArray,List.length_map] at hc ⊢
  refine hc.mono ?_
  rintro e w' ⟨he,q,rfl⟩
  refine ⟨he,?_⟩
  have h:=grownBy_sorted (w:=w) (g:=g) (n:=q) (os:=#[]) ((Lib.compactUpTo (l.map fun s:ByteArray=>s.data.toList).toArray l.length)++List.replicate (l.length-(Lib.compactUpTo (l.map fun s:ByteArray=>s.data.toList).toArray l.length).length) []).toArray
  rw [grow_empty] at h
  exact h
theorem compact_len_lt {l:List (List UInt8)} (hs:l.Pairwise fun a b=>a≤b) (h:¬l.Nodup):(Lib.compactUpTo l.toArray l.toArray.size).length<l.length:=by
 have hex:∃(j:Nat) (h1:j+1<l.length),l[j]=l[j+1]:=by
  by_cases hc:∃(j:Nat) (h1:j+1<l.length),l[j]=l[j+1]
  ·exact hc
  ·refine absurd ?_ h
   have hne:∀(j:Nat) (h1:j+1<l.length),l[j]≠l[j+1]:=fun j h1 e=>hc ⟨j,h1,e⟩
   refine List.pairwise_iff_getElem.2 fun i j hi hj hij=>?_
   intro e
   have h1:=List.pairwise_iff_getElem.1 hs i (i+1) hi (by omega) (by omega)
   have h2:l[i+1]'(by omega)≤l[j]:=by
    by_cases e2:i+1=j
    ·subst e2;exact List.le_refl _
    ·exact List.pairwise_iff_getElem.1 hs (i+1) j (by omega) hj (by omega)
   rw [←e] at h2
   exact hne i (by omega) (List.le_antisymm h1 h2)
 obtain ⟨j,h1,e⟩:=hex
 unfold Lib.compactUpTo
 rw [List.length_map]
 have hlt:((List.range l.toArray.size).filter (Lib.keeps l.toArray)).length<(List.range l.toArray.size).length:=by
  refine List.length_filter_lt_length_iff_exists.2 ⟨j+1,by simp;omega,?_⟩
  unfold Lib.keeps
  simp only [decide_eq_true_eq,not_or,Nat.add_sub_cancel,List.getElem!_toArray]
  refine ⟨by omega,?_⟩
  rw [getElem!_pos l (j+1) h1,getElem!_pos l j (by omega)]
  exact fun h=>h e.symm
 simpa using hlt
theorem values_any (a:Option Addr) (len cap:Nat) (w:World):Calls Tryz.prog 46 #[.slice a len cap] w fun e w'=>e=.returned (.func (.func 68) #[] #[.pointer (some ⟨w.heap.size,0,none⟩)])∧w'=w.alloc (.cells #[.slice a len cap] 47):=
 (callsIn_wide (n:=3)).1 (vals_in Fence.wide 3 trivial rfl a len cap w)
theorem append_seq (Bs:Nat) (A:Option Addr) (cap:Nat) (l:List ByteArray) (hl:l.length≤1000) (w:World) (hBs:Bs<w.heap.size)
  (hc:w.cell? ⟨Bs,0,none⟩=some (.slice A l.length cap)) (hS:SlR w (· < w.heap.size) 1 RStr (.slice A l.length cap) l) :
  Calls Tryz.prog 91 #[.slice none 0 0,.func (.func 68) #[] #[.pointer (some ⟨Bs,0,none⟩)]] w fun e W'=>∃v,e=.returned v∧W'.ownsRow w.heap.size 9 1 v l.length (l.map encT)∧(v=.slice none 0 0↔l=[])∧Below w.heap.size w W':=
 (callsIn_wide (n:=5)).1 (collect_in Fence.wide 5 trivial trivial rfl (by omega) Bs A cap l hl w hBs hc hS)
theorem collect_any (Bs:Nat) (A:Option Addr) (cap:Nat) (l:List ByteArray) (hl:l.length≤1000) (w:World) (hBs:Bs<w.heap.size)
  (hc:w.cell? ⟨Bs,0,none⟩=some (.slice A l.length cap)) (hS:SlR w (· < w.heap.size) 1 RStr (.slice A l.length cap) l) :
  Calls Tryz.prog 66 #[.func (.func 68) #[] #[.pointer (some ⟨Bs,0,none⟩)]] w fun e W'=>∃v,e=.returned v∧W'.ownsRow w.heap.size 9 1 v l.length (l.map encT)∧(v=.slice none 0 0↔l=[])∧Below w.heap.size w W':=by
 have HC:=Ω (append_seq Bs A cap l hl w hBs hc hS)
 clear hc hS hBs hl
 go_enter Tryz.func66,Tryz.ntmps66
 go_wp2_with (go_at_call 91;refine HC.out.mono ?_;rintro e w' ⟨v,rfl,h1,h2,h3⟩)
 go_ret
 exact ⟨v,rfl,h1,h2,h3⟩
theorem sorted_texts (Bs:Nat) (A:Option Addr) (cap:Nat) (l:List ByteArray) (hl:l.length≤1000) (w:World) (hBs:Bs<w.heap.size)
  (hc:w.cell? ⟨Bs,0,none⟩=some (.slice A l.length cap)) (hS:SlR w (· < w.heap.size) 1 RStr (.slice A l.length cap) l) :
  Calls Tryz.prog 45 #[.func (.func 68) #[] #[.pointer (some ⟨Bs,0,none⟩)]] w fun e W'=>∃(v:Value) (l':List ByteArray),e=.returned v∧l'.Perm l∧(l'.map (·.data.toList)).Pairwise (fun a b=>a≤b)∧W'.ownsRow w.heap.size 9 1 v l.length (l'.map encT)∧(l=[]→v=.slice none 0 0)∧Below w.heap.size w W':=by
 have HC:=Ω (collect_any Bs A cap l hl w hBs hc hS)
 have HL:=Ω hl
 clear hc hS hBs hl
 go_enter Tryz.func45,Tryz.ntmps45
 go_upto_region 2 with (go_at_call 66;refine HC.out.mono ?_;rintro e W ⟨v,rfl,h1,h2,h3⟩)
 rcases h1.2 with ⟨rfl,hz⟩|⟨g,c4,_,rfl,_⟩
 ·have hn:l=[]:=List.eq_nil_of_length_eq_zero hz
  have HN:=Ω hn
  have H1:=Ω h1
  have H3:=Ω h3
  have HS:Hid (Calls Tryz.prog 67 #[.slice none 0 0] W fun e w'=>e=.returned (.tuple #[])∧w'=W):=Ω (AnyM.slices_Sort_string_none Tryz.sortS none 0 W)
  clear h1 h2 h3 hz hn
  go_wp2_with (go_at_call 67;refine HS.out.mono ?_;rintro e w' ⟨rfl,rfl⟩)
  go_ret
  exact ⟨_,[],rfl,by rw [HN.out],.nil,by have:=H1.out;rw [HN.out] at this ⊢;exact this,fun _=>rfl,H3.out⟩
 ·have hne:l≠[]:=fun e=>by have:=h2.2 e;cases this
  have HN:=Ω hne
  have H3:=Ω h3
  have HS:=Ω (sort_names w.heap.size g c4 l W h1 HL.out)
  clear h1 h2 h3 hne
  go_wp2_with (go_at_call 67;refine HS.out.mono ?_;rintro e w' ⟨rfl,l',hp,hs,hown,hg⟩)
  go_ret
  refine ⟨_,l',rfl,hp,hs,hown,fun h=>absurd h HN.out,?_⟩
  refine H3.out.grown hg H3.out.size (fun k e=>?_)
  have e':g=k:=(by simpa using e)
  rcases hown.2 with ⟨e2,_⟩|⟨g',_,_,e2,hb,_⟩
  ·cases e2
  ·have:g=g':=by injection e2 with e2 _ _;injection e2 with e2;injection e2
   omega
theorem clone_none (w:World):Calls Tryz.prog 48 #[.slice none 0 0] w fun e w'=>e=.returned (.slice none 0 0)∧w=w':=by
 have heq:∀W,(binOp .eql 47 (.slice none 0 0) (.slice none 0 0)).run Tryz.prog W=.ok (.bool true) W:=fun W=>Lib.run_eql_slice_nil W 47 9 none 0 0 0 0 Tryz.underlying47
 go_enter Tryz.func48,Tryz.ntmps48
 go_wp2
 go_ret
 exact ⟨rfl,rfl⟩
theorem compact_none (w:World):Calls Tryz.prog 47 #[.slice none 0 0] w fun e w'=>e=.returned (.slice none 0 0)∧w=w':=by
 go_enter Tryz.func47,Tryz.ntmps47
 go_wp2
 go_ret
 exact ⟨rfl,rfl⟩
theorem perm_nodup_iff {l l':List ByteArray} (h:l'.Perm l):(l'.map fun s:ByteArray=>s.data.toList).Nodup↔l.Nodup:=by
 rw [←h.nodup_iff]
 constructor
 ·exact fun h=>List.Pairwise.imp (fun hne e=>hne (by rw [e])) (List.pairwise_map.1 h)
 ·exact fun h=>List.pairwise_map.2 (h.imp fun hne e=>hne (ByteArray.ext (Array.ext' e)))
theorem twice_any (A:Option Addr) (cap:Nat) (l:List ByteArray) (hl:l.length≤1000) (w:World) (hS:SlR w (· < w.heap.size) 1 RStr (.slice A l.length cap) l) :
  Calls Tryz.prog 28 #[.slice A l.length cap] w fun e w'=>e=.returned (.bool (twiceB l))∧Below w.heap.size w w':=by
 have hb0:Below w.heap.size w (w.alloc (.cells #[.slice A l.length cap] 47)):=below1 _ _
 have HSO:=Ω (sorted_texts w.heap.size A cap l hl (w.alloc (.cells #[.slice A l.length cap] 47)) (by simp) ((Blk.new _ _ _).cell 0) (hS.imp (fun b h=>by simp;omega) (fun b h=>hb0.block b h) fun _ _ _ r=>r))
 have HL:=Ω hl
 have HB0:=Ω hb0
 clear hS hl hb0
 go_enter Tryz.func28,Tryz.ntmps28
 go_upto_region 2 with (first
  |(go_at_call 46;refine (values_any _ _ _ _).mono ?_;rintro e w' ⟨rfl,rfl⟩)
  |(go_at_call 45;refine HSO.out.mono ?_;rintro e W ⟨v,l',rfl,hp,hs,hown,hnil,hb⟩))
 have hlen:=hp.length_eq
 rcases hown.2 with ⟨rfl,hz⟩|⟨g,c4,_,rfl,hgb,_⟩
 ·have hn:l=[]:=List.eq_nil_of_length_eq_zero hz
  have HR:Hid (twiceB l=false):=Ω (by rw [hn];rfl)
  have HB:=Ω (HB0.out.trans (hb.mono HB0.out.size))
  clear hp hs hown hnil hb hlen hz hn
  go_wp2_with (first
   |(go_at_call 48;refine (clone_none _).mono ?_;rintro e w' ⟨rfl,rfl⟩)
   |(go_at_call 47;refine (compact_none _).mono ?_;rintro e w' ⟨rfl,rfl⟩))
  go_ret
  exact ⟨by rw [HR.out];rfl,HB.out⟩
 ·have hrow:W.ownsRow (w.alloc (.cells #[.slice A l.length cap] 47)).heap.size 9 1 (.slice (some ⟨g,0,none⟩) l'.length c4) l'.length (l'.map encT):=by rw [hlen];exact hown
  have hcl:=clone_names _ g c4 l' W hrow (by rw [hlen];exact HL.out)
  rw [hlen] at hcl
  have HCL:=Ω hcl
  have hcp:∀(X:World) (g4 c4:Nat),X.ownsRow W.heap.size 9 1 (.slice (some ⟨g4,0,none⟩) l.length c4) l.length (l'.map encT)→Calls Tryz.prog 47 #[.slice (some ⟨g4,0,none⟩) l.length c4] X fun e w'=>(∃n',e=.returned (.slice (some ⟨g4,0,none⟩) n' c4)∧decide (n'<l.length)=twiceB l)∧X.grownBy w' (some g4):=fun X g4 c4 h=>by
   rw [←hlen] at h ⊢
   refine (compact_texts _ g4 c4 l' X h (by rw [hlen];exact HL.out)).mono ?_
   rintro e w' ⟨rfl,hg⟩
   refine ⟨⟨_,rfl,?_⟩,hg⟩
   unfold twiceB
   by_cases hnd:l.Nodup
   ·rw [dT hnd,keeps_nodup ((perm_nodup_iff hp).2 hnd),List.length_map]
    simp
   ·rw [dF hnd]
    have:=compact_len_lt hs (fun h=>hnd ((perm_nodup_iff hp).1 h))
    rw [List.length_map] at this
    exact dT (by omega)
  have HCP:=Ω hcp
  have HB:=Ω (HB0.out.trans (hb.mono HB0.out.size))
  clear hp hs hown hnil hb hlen hrow hcl hcp hgb
  go_wp2_with (first
   |(go_at_call 48;refine HCL.out.mono ?_;rintro e W2 ⟨g4,c5,rfl,hr2,hb2⟩;have HC2:=Ω (HCP.out W2 g4 c5 hr2);have HG4:Hid (W.heap.size≤g4):=Ω (by rcases hr2.2 with ⟨e2,_⟩|⟨g',_,_,e2,hb,_⟩;(cases e2);(have:g4=g':=(by injection e2 with e2 _ _;injection e2 with e2;injection e2);omega));have HB2:=Ω hb2;clear hr2 hb2)
   |(go_at_call 47;refine HC2.out.mono ?_;rintro e W3 ⟨⟨n',rfl,hd⟩,hg⟩;have HD:=Ω hd;have HG:=Ω hg;clear hd hg))
  go_ret
  refine ⟨by rw [←HD.out];rfl,HB.out.trans ?_⟩
  have h2:Below W.heap.size W W3:=HB2.out.grown HG.out HB2.out.size (fun k e=>by have e':g4=k:=(by simpa using e);have:=HG4.out;omega)
  exact h2.mono HB.out.size
end Go.Proofs.YtmignlclfbaifaaGreat
