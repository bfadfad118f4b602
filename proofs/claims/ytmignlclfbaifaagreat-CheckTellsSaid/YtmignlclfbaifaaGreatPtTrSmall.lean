/- What check.Place, check.Array and tree.deep tell. -/
import Derived.Test.YtmignlclfbaifaaGreatPtTrIdx
namespace Go.Proofs.YtmignlclfbaifaaGreat
open Go.RowKit
theorem tl_beq (a b:ByteArray):(a.toList == b.toList)=decide (a=b):=by
 rw [Bool.eq_iff_iff,beq_iff_eq,decide_eq_true_eq]
 refine ⟨fun e=>?_,fun e=>by rw [e]⟩
 rw [ByteArray.toList_eq,ByteArray.toList_eq] at e
 cases a;cases b
 simpa using e
theorem plc1_pred (d:Nat) (l:List LFunc) (s:ByteArray) (nb:Nat) (w:World) (hn:w.cell? ⟨nb,0,none⟩=some (.string s)) (hlt:nb<w.heap.size):Pred_fun d 36 #[.pointer (some ⟨nb,0,none⟩)] (fun f=>decide (f.name=s)) l w:=by
 intro W cs x hx hr hb
 obtain ⟨vp,vl,vb,rfl,_,_,_⟩:=hr
 have hc:W.cell? ⟨nb,0,none⟩=some (.string s):=(hb.cell (p:=⟨nb,0,none⟩) hlt).trans hn
 have hnb:nb<W.heap.size:=ltle hlt hb.size
 have HB:=Ω hb
 clear hb hn
 show Calls Tryz.prog 36 #[.agg #[.string x.name,vp,vl,vb],.pointer (some ⟨nb,0,none⟩)] W _
 go_enter Tryz.func36,Tryz.ntmps36
 go_wp2
 go_ret
 exact ⟨by rw [←tl_beq];rfl,HB.out.trans ((below1 _ _).mono HB.out.size)⟩
theorem arr1_pred (l:List (ByteArray × Int)) (s:ByteArray) (nb:Nat) (w:World) (hn:w.cell? ⟨nb,0,none⟩=some (.string s)) (hlt:nb<w.heap.size):Pred_arr 38 #[.pointer (some ⟨nb,0,none⟩)] (fun a=>decide (a.1=s)) l w:=by
 intro W cs x hx hr hb
 obtain rfl:cs=[.string x.1,.int .i64 x.2]:=hr
 have hc:W.cell? ⟨nb,0,none⟩=some (.string s):=(hb.cell (p:=⟨nb,0,none⟩) hlt).trans hn
 have hnb:nb<W.heap.size:=ltle hlt hb.size
 have HB:=Ω hb
 clear hb hn
 show Calls Tryz.prog 38 #[.agg #[.string x.1,.int .i64 x.2],.pointer (some ⟨nb,0,none⟩)] W _
 go_enter Tryz.func38,Tryz.ntmps38
 go_wp2
 go_ret
 exact ⟨by rw [←tl_beq];rfl,HB.out.trans ((below1 _ _).mono HB.out.size)⟩
theorem place_any (d:Nat) (p:LProg) (A1 A2:Option Addr) (n1 c1 c2:Nat) (s:ByteArray) (w:World) (hf:SlR w (· < w.heap.size) 4 (RFunc d w (· < w.heap.size)) (.slice A2 p.funcs.length c2) p.funcs) :
  Calls Tryz.prog 15 #[.agg #[.slice A1 n1 c1,.slice A2 p.funcs.length c2],.string s] w fun e w'=>e=.returned (.int .i64 (placeL p s))∧Below w.heap.size w w':=by
 have HF:=Ω hf
 clear hf
 go_enter Tryz.func15,Tryz.ntmps15
 go_upto_region 1 with fail
 refine wp_world ?_
 intro W hW
 have hB:Below w.heap.size w W:=by rw [←hW];exact below2 _ _ _
 have hs:W.heap.size=w.heap.size+2:=by rw [←hW];simp
 have c0:W.cell? ⟨w.heap.size,1,none⟩=some (.slice A2 p.funcs.length c2):=by
  rw [←hW];exact ((Blk.new w _ _).alloc _).cell 1
 have c3:W.cell? ⟨w.heap.size+1,0,none⟩=some (.string s):=by
  rw [←hW];exact (Blk.new_at _ _ _ (by simp)).cell 0
 have hi:=idx_plc1 d (.pointer (some ⟨w.heap.size+1,0,none⟩)) p.funcs (.slice A2 p.funcs.length c2) (fun f=>decide (f.name=s)) W (HF.out.imp (fun b h=>ltle h hB.size) (fun b h=>hB.block b h) (fun _ _ _ r=>r.imp (fun b h=>ltle h hB.size) (fun b h=>hB.block b h))) (plc1_pred d p.funcs s (w.heap.size+1) W c3 (by omega))
 have HI:=Ω hi
 have HB:=Ω hB
 clear hW hi hB
 go_wp2_with (go_at_call 35;refine HI.out.mono ?_;rintro e w' ⟨rfl,hb⟩)
 go_ret
 exact ⟨rfl,HB.out.trans (hb.mono HB.out.size)⟩
theorem arrayL_any (p:LProg) (A1 A2:Option Addr) (n2 c1 c2:Nat) (s:ByteArray) (w:World) (hf:SlR w (· < w.heap.size) 2 RArr (.slice A1 p.arrays.length c1) p.arrays) :
  Calls Tryz.prog 17 #[.agg #[.slice A1 p.arrays.length c1,.slice A2 n2 c2],.string s] w fun e w'=>e=.returned (.int .i64 (arrayL p s))∧Below w.heap.size w w':=by
 have HF:=Ω hf
 clear hf
 go_enter Tryz.func17,Tryz.ntmps17
 go_upto_region 1 with fail
 refine wp_world ?_
 intro W hW
 have hB:Below w.heap.size w W:=by rw [←hW];exact below2 _ _ _
 have hs:W.heap.size=w.heap.size+2:=by rw [←hW];simp
 have c0:W.cell? ⟨w.heap.size,0,none⟩=some (.slice A1 p.arrays.length c1):=by
  rw [←hW];exact ((Blk.new w _ _).alloc _).cell 0
 have c3:W.cell? ⟨w.heap.size+1,0,none⟩=some (.string s):=by
  rw [←hW];exact (Blk.new_at _ _ _ (by simp)).cell 0
 have hi:=idx_arr1 (.pointer (some ⟨w.heap.size+1,0,none⟩)) p.arrays (.slice A1 p.arrays.length c1) (fun a=>decide (a.1=s)) W (HF.out.imp (fun b h=>ltle h hB.size) (fun b h=>hB.block b h) (fun _ _ _ r=>r)) (arr1_pred p.arrays s (w.heap.size+1) W c3 (by omega))
 have HI:=Ω hi
 have HB:=Ω hB
 clear hW hi hB
 go_wp2_with (go_at_call 37;refine HI.out.mono ?_;rintro e w' ⟨rfl,hb⟩)
 go_ret
 exact ⟨rfl,HB.out.trans (hb.mono HB.out.size)⟩
def DeepAt (d m:Nat):Prop:=∀(e:LExpr) (va:Value) (w:World),SlR w (· < w.heap.size) 5 (RExpr d w (· < w.heap.size)) va e.args→Calls Tryz.prog 98 #[.agg #[.int .i64 e.kind,.int .i64 e.op,.int .i64 e.n,.string e.name,va],.int .i64 (m:Int)] w fun r w'=>r=.returned (.bool (deepE m e))∧Below w.heap.size w w'
theorem deep1_pred (d m:Nat) (hm:m≤1000) (h:DeepAt d m) (l:List LExpr) (nb:Nat) (w:World) (hn:w.cell? ⟨nb,0,none⟩=some (.int .i64 ((m+1:Nat):Int))) (hlt:nb<w.heap.size):Pred_exp d 112 #[.pointer (some ⟨nb,0,none⟩)] (fun x=>!deepE m x) l w:=by
 intro W cs x hx hr hb
 obtain ⟨va,rfl,hs⟩:=hr
 have hc:W.cell? ⟨nb,0,none⟩=some (.int .i64 ((m:Int)+1)):=by have h:=(hb.cell (p:=⟨nb,0,none⟩) hlt).trans hn;simpa using h
 have hnb:nb<W.heap.size:=ltle hlt hb.size
 obtain ⟨A,c,hva,_,_⟩:=hs.val
 subst hva
 have HB:=Ω hb
 have HS:=Ω (fun (X:World) (hx:Below W.heap.size W X)=>h x (.slice A x.args.length c) X (hs.imp (fun b h=>ltle h hx.size) (fun b h=>hx.block b h) (fun _ _ _ r=>RExpr.imp (fun b h=>ltle h hx.size) (fun b h=>hx.block b h) _ r)))
 clear hb hn hs h
 show Calls Tryz.prog 112 #[.agg #[.int .i64 x.kind,.int .i64 x.op,.int .i64 x.n,.string x.name,.slice A x.args.length c],.pointer (some ⟨nb,0,none⟩)] W _
 go_enter Tryz.func112,Tryz.ntmps112
 go_wp2_with (go_at_call 98;refine (HS.out _ (below1 _ _)).mono ?_;rintro e w' ⟨rfl,hb2⟩)
 go_ret
 exact ⟨rfl,HB.out.trans (((below1 _ _).trans (hb2.mono (by simp))).mono HB.out.size)⟩
theorem deep_any (d:Nat):∀m:Nat,m≤1000→DeepAt d m
 |0,_=>by
  intro e va w hs
  obtain ⟨A,c,hva,_,_⟩:=hs.val
  subst hva
  clear hs
  go_enter Tryz.func98,Tryz.ntmps98
  go_wp2
  go_ret
  exact ⟨rfl,below2 _ _ _⟩
 |m+1,hm=>by
  intro e va w hs
  have IH:=deep_any d m (by omega)
  obtain ⟨A,c,hva,_,_⟩:=hs.val
  subst hva
  have HS:=Ω hs
  clear hs
  go_enter Tryz.func98,Tryz.ntmps98
  go_upto_region 1 with fail
  refine wp_world ?_
  intro W hW
  have hB:Below w.heap.size w W:=by rw [←hW];exact below2 _ _ _
  have hs:W.heap.size=w.heap.size+2:=by rw [←hW];simp
  have c0:W.cell? ⟨w.heap.size,4,none⟩=some (.slice A e.args.length c):=by
   rw [←hW];exact ((Blk.new w _ _).alloc _).cell 4
  have c3:W.cell? ⟨w.heap.size+1,0,none⟩=some (.int .i64 ((m+1:Nat):Int)):=by
   rw [←hW];exact (Blk.new_at _ _ _ (by simp)).cell 0
  have hi:=con_deep1 d (.pointer (some ⟨w.heap.size+1,0,none⟩)) e.args (.slice A e.args.length c) (fun x=>!deepE m x) W (HS.out.imp (fun b h=>ltle h hB.size) (fun b h=>hB.block b h) (fun _ _ _ r=>RExpr.up d (Nat.le_succ d) (RExpr.imp (fun b h=>ltle h hB.size) (fun b h=>hB.block b h) _ r))) (deep1_pred d m (by omega) IH e.args (w.heap.size+1) W c3 (by omega))
  have hall:(!e.args.any fun x=>!deepE m x)=deepE (m+1) e:=by
   show _=e.args.all (deepE m)
   rw [List.not_any_eq_all_not]
   simp
  have HI:=Ω hi
  have HB:=Ω hB
  have HALL:=Ω hall
  have c4:W.cell? ⟨w.heap.size+1,0,none⟩=some (.int .i64 ((m:Int)+1)):=by simpa using c3
  have dp:decide (((m:Int)+1) > 0)=true:=dT (by omega)
  have dp2:decide (0<(m:Int)+1)=true:=dT (by omega)
  clear hW hi hB hall c3 IH
  go_wp2_with (go_at_call 88;refine HI.out.mono ?_;rintro e w' ⟨rfl,hb⟩)
  go_ret
  exact ⟨by rw [←HALL.out];rfl,HB.out.trans (hb.mono HB.out.size)⟩
end Go.Proofs.YtmignlclfbaifaaGreat
