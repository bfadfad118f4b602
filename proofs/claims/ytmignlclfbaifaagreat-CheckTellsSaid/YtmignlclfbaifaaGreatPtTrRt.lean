/- What tree.stmt, tree.stmts tell of statements of bounded depth. What tree.Right tells of programs of bounded depth. Printed by wip/gen_trright.py. -/
import Derived.Test.YtmignlclfbaifaaGreatPtTrStmt
namespace Go.Proofs.YtmignlclfbaifaaGreat
open Go.RowKit
def bareK (k:Int) (nb em:Bool) (na nt me:Nat) (c:Bool):Bool:=
 if k=1∨k=2 then nb && decide ((na:Int)=k) && decide (nt=0) && decide (me=0)
 else if k=3 then em && decide (na=1)
 else if k=4 then em && decide (na=1) && decide (me=0)
 else if k=5∨k=6 then em && decide (na=0) && decide (nt=0) && decide (me=0)
 else if k=7∨k=8∨k=9 then em && decide (na=1) && decide (nt=0) && decide (me=0)
 else if k=10 then em && decide (na=1) && decide (nt=0) && decide (me=0) && c
 else false
theorem bareK_eq (s:LStmt):bareS s=bareK s.kind (nameB s.name) (decide (s.name=⟨#[]⟩)) s.args.length s.thn.length s.els.length (s.args.all fun e=>decide (e.kind=5)):=rfl
theorem bareK_form (k:Int) (nb em:Bool) (na nt me:Nat) (c:Bool) (h:em=true→nb=false):bareK k nb em na nt me c=((formL k).2.2.2.2 && decide ((na:Int)=(formL k).2.1) && ((formL k).2.2.1 || decide (nt=0)) && ((formL k).2.2.2.1 || decide (me=0)) && ((formL k).1 == nb) && ((formL k).1 || em) && (!decide (k=10) || c)):=by
 have i1:decide ((na:Int)=1)=decide (na=1):=decide_eq_decide.2 (by omega)
 have i0:decide ((na:Int)=0)=decide (na=0):=decide_eq_decide.2 (by omega)
 rcases (by omega:k=1∨k=2∨k=3∨k=4∨k=5∨k=6∨k=7∨k=8∨k=9∨k=10∨(k<1∨10<k)) with rfl|rfl|rfl|rfl|rfl|rfl|rfl|rfl|rfl|rfl|hk
 case inr.inr.inr.inr.inr.inr.inr.inr.inr.inr=>
  have h1:formL k=(false,0,false,false,false):=by
   unfold formL
   rw [if_neg (by omega),if_neg (by omega),if_neg (by omega),if_neg (by omega),if_neg (by omega),if_neg (by omega)]
  have h2:bareK k nb em na nt me c=false:=by
   unfold bareK
   rw [if_neg (by omega),if_neg (by omega),if_neg (by omega),if_neg (by omega),if_neg (by omega),if_neg (by omega)]
  rw [h1,h2]
  rfl
 case inl=>
  show (nb && decide ((na:Int)=1) && decide (nt=0) && decide (me=0))=(true && decide ((na:Int)=1) && (false || decide (nt=0)) && (false || decide (me=0)) && (true == nb) && (true || em) && (true || c))
  cases nb <;> cases decide ((na:Int)=1) <;> cases decide (nt=0) <;> cases decide (me=0) <;> rfl
 case inr.inl=>
  show (nb && decide ((na:Int)=2) && decide (nt=0) && decide (me=0))=(true && decide ((na:Int)=2) && (false || decide (nt=0)) && (false || decide (me=0)) && (true == nb) && (true || em) && (true || c))
  cases nb <;> cases decide ((na:Int)=2) <;> cases decide (nt=0) <;> cases decide (me=0) <;> rfl
 case inr.inr.inl=>
  show (em && decide (na=1))=(true && decide ((na:Int)=1) && (true || decide (nt=0)) && (true || decide (me=0)) && (false == nb) && (false || em) && (true || c))
  rw [i1]
  cases em <;> cases nb <;> cases decide (na=1) <;> simp_all
 case inr.inr.inr.inl=>
  show (em && decide (na=1) && decide (me=0))=(true && decide ((na:Int)=1) && (true || decide (nt=0)) && (false || decide (me=0)) && (false == nb) && (false || em) && (true || c))
  rw [i1]
  cases em <;> cases nb <;> cases decide (na=1) <;> cases decide (me=0) <;> simp_all
 case inr.inr.inr.inr.inr.inr.inr.inr.inr.inl=>
  show (em && decide (na=1) && decide (nt=0) && decide (me=0) && c)=(true && decide ((na:Int)=1) && (false || decide (nt=0)) && (false || decide (me=0)) && (false == nb) && (false || em) && (false || c))
  rw [i1]
  cases em <;> cases nb <;> cases decide (na=1) <;> cases decide (nt=0) <;> cases decide (me=0) <;> simp_all
 case inr.inr.inr.inr.inl=>
  show (em && decide (na=0) && decide (nt=0) && decide (me=0))=(true && decide ((na:Int)=0) && (false || decide (nt=0)) && (false || decide (me=0)) && (false == nb) && (false || em) && (true || c))
  rw [i0]
  cases em <;> cases nb <;> cases decide (na=0) <;> cases decide (nt=0) <;> cases decide (me=0) <;> simp_all
 case inr.inr.inr.inr.inr.inl=>
  show (em && decide (na=0) && decide (nt=0) && decide (me=0))=(true && decide ((na:Int)=0) && (false || decide (nt=0)) && (false || decide (me=0)) && (false == nb) && (false || em) && (true || c))
  rw [i0]
  cases em <;> cases nb <;> cases decide (na=0) <;> cases decide (nt=0) <;> cases decide (me=0) <;> simp_all
 all_goals
  show (em && decide (na=1) && decide (nt=0) && decide (me=0))=(true && decide ((na:Int)=1) && (false || decide (nt=0)) && (false || decide (me=0)) && (false == nb) && (false || em) && (true || c))
  rw [i1]
  cases em <;> cases nb <;> cases decide (na=1) <;> cases decide (nt=0) <;> cases decide (me=0) <;> simp_all
theorem bare_form (s:LStmt):bareS s=((formL s.kind).2.2.2.2 && decide ((s.args.length:Int)=(formL s.kind).2.1) && ((formL s.kind).2.2.1 || decide (s.thn.length=0)) && ((formL s.kind).2.2.2.1 || decide (s.els.length=0)) && ((formL s.kind).1 == nameB s.name) && ((formL s.kind).1 || decide (s.name=⟨#[]⟩)) && (!decide (s.kind=10) || s.args.all fun e=>decide (e.kind=5))):=by
 rw [bareK_eq]
 exact bareK_form _ _ _ _ _ _ _ fun h=>by rw [of_decide_eq_true h];rfl
theorem stmt_none (sn:ByteArray) (na nt me:Nat) (a:Int) (m:Nat) (Aa At Ae:Option Addr) (ca ct ce:Nat) (w:World) (k:Int) (nm th mo ok:Bool) (hok:ok=false)
  (hf:∀X,Calls Tryz.prog 87 #[.int .i64 k] X fun r w'=>r=.returned (.tuple #[.agg #[.bool nm,.int .i64 a,.bool th,.bool mo],.bool ok])∧Below X.heap.size X w') :
  Calls Tryz.prog 65 #[.agg #[.int .i64 k,.string sn,.slice Aa na ca,.slice At nt ct,.slice Ae me ce],.int .i64 (m:Int)] w fun r w'=>r=.returned (.bool false)∧Below w.heap.size w w':=by
 subst hok
 have HF:=Ω hf
 clear hf
 go_enter Tryz.func65,Tryz.ntmps65
 go_upto_region 1 with fail
 refine wp_world ?_
 intro W hW
 have hG:Blk W w.heap.size 45 #[.int .i64 k,.string sn,.slice Aa na ca,.slice At nt ct,.slice Ae me ce]:=by rw [←hW];exact Blk.new _ _ _
 have hB:Below w.heap.size w W:=by rw [←hW];exact below1 _ _
 have a0:W.cell? ⟨w.heap.size,0,none⟩=some (.int .i64 k):=hG.cell 0
 have hlt:w.heap.size<W.heap.size:=hG.lt
 have HG:=Ω hG
 have HB:=Ω hB
 clear hW hG hB
 go_upto_region 2 with (go_at_call 87;refine (HF.out W).mono ?_;rintro r W1 ⟨rfl,hb1⟩;have HB1:=Ω hb1;clear hb1)
 refine wp_world ?_
 intro W3 hW3
 have hX:Blk W3 W1.heap.size 119 #[.bool nm,.int .i64 a,.bool th,.bool mo]:=by rw [←hW3];exact Blk.new_at _ _ _ rfl
 have hG:Blk W3 w.heap.size 45 #[.int .i64 k,.string sn,.slice Aa na ca,.slice At nt ct,.slice Ae me ce]:=by rw [←hW3];exact (HG.out.below HB1.out hlt).alloc _
 have hB:Below w.heap.size w W3:=by rw [←hW3];exact (HB.out.trans (HB1.out.mono HB.out.size)).alloc (Nat.le_trans HB.out.size HB1.out.size) _
 clear a0
 have b2:W3.cell? ⟨w.heap.size,2,none⟩=some (.slice Aa na ca):=hG.cell 2
 have x1:W3.cell? ⟨W1.heap.size,1,none⟩=some (.int .i64 a):=hX.cell 1
 have HB3:=Ω hB
 clear hW3 hX hG hB hlt HB HB1 HG
 go_wp2
 go_ret
 exact ⟨rfl,HB3.out⟩
theorem stmt_zero (sn:ByteArray) (na nt me:Nat) (a:Int) (m:Nat) (Aa At Ae:Option Addr) (ca ct ce:Nat) (w:World) (k:Int) (nm th mo ok:Bool) (hok:ok=true) (hm:m=0)
  (hf:∀X,Calls Tryz.prog 87 #[.int .i64 k] X fun r w'=>r=.returned (.tuple #[.agg #[.bool nm,.int .i64 a,.bool th,.bool mo],.bool ok])∧Below X.heap.size X w') :
  Calls Tryz.prog 65 #[.agg #[.int .i64 k,.string sn,.slice Aa na ca,.slice At nt ct,.slice Ae me ce],.int .i64 (m:Int)] w fun r w'=>r=.returned (.bool false)∧Below w.heap.size w w':=by
 subst hok
 subst hm
 have HF:=Ω hf
 clear hf
 go_enter Tryz.func65,Tryz.ntmps65
 go_upto_region 1 with fail
 refine wp_world ?_
 intro W hW
 have hG:Blk W w.heap.size 45 #[.int .i64 k,.string sn,.slice Aa na ca,.slice At nt ct,.slice Ae me ce]:=by rw [←hW];exact Blk.new _ _ _
 have hB:Below w.heap.size w W:=by rw [←hW];exact below1 _ _
 have a0:W.cell? ⟨w.heap.size,0,none⟩=some (.int .i64 k):=hG.cell 0
 have hlt:w.heap.size<W.heap.size:=hG.lt
 have HG:=Ω hG
 have HB:=Ω hB
 clear hW hG hB
 go_upto_region 2 with (go_at_call 87;refine (HF.out W).mono ?_;rintro r W1 ⟨rfl,hb1⟩;have HB1:=Ω hb1;clear hb1)
 refine wp_world ?_
 intro W3 hW3
 have hX:Blk W3 W1.heap.size 119 #[.bool nm,.int .i64 a,.bool th,.bool mo]:=by rw [←hW3];exact Blk.new_at _ _ _ rfl
 have hG:Blk W3 w.heap.size 45 #[.int .i64 k,.string sn,.slice Aa na ca,.slice At nt ct,.slice Ae me ce]:=by rw [←hW3];exact (HG.out.below HB1.out hlt).alloc _
 have hB:Below w.heap.size w W3:=by rw [←hW3];exact (HB.out.trans (HB1.out.mono HB.out.size)).alloc (Nat.le_trans HB.out.size HB1.out.size) _
 clear a0
 have b2:W3.cell? ⟨w.heap.size,2,none⟩=some (.slice Aa na ca):=hG.cell 2
 have x1:W3.cell? ⟨W1.heap.size,1,none⟩=some (.int .i64 a):=hX.cell 1
 have HB3:=Ω hB
 clear hW3 hX hG hB hlt HB HB1 HG
 go_wp2
 go_ret
 exact ⟨rfl,HB3.out⟩
theorem stmt_len (sn:ByteArray) (na nt me:Nat) (a:Int) (m:Nat) (Aa At Ae:Option Addr) (ca ct ce:Nat) (w:World) (k:Int) (nm th mo ok:Bool) (hok:ok=true) (hl:¬(na:Int)=a)
  (hf:∀X,Calls Tryz.prog 87 #[.int .i64 k] X fun r w'=>r=.returned (.tuple #[.agg #[.bool nm,.int .i64 a,.bool th,.bool mo],.bool ok])∧Below X.heap.size X w') :
  Calls Tryz.prog 65 #[.agg #[.int .i64 k,.string sn,.slice Aa na ca,.slice At nt ct,.slice Ae me ce],.int .i64 ((m:Int)+1)] w fun r w'=>r=.returned (.bool false)∧Below w.heap.size w w':=by
 subst hok
 have l1:((na:Int) == a)=false:=by rw [beq_dec];exact dF hl
 have l2:((na:Int) != a)=true:=by rw [bne,l1];rfl
 have dm:(((m:Int)+1) == 0)=false:=by rw [beq_dec];exact dF (by omega)
 have HF:=Ω hf
 clear hf hl
 go_enter Tryz.func65,Tryz.ntmps65
 go_upto_region 1 with fail
 refine wp_world ?_
 intro W hW
 have hG:Blk W w.heap.size 45 #[.int .i64 k,.string sn,.slice Aa na ca,.slice At nt ct,.slice Ae me ce]:=by rw [←hW];exact Blk.new _ _ _
 have hB:Below w.heap.size w W:=by rw [←hW];exact below1 _ _
 have a0:W.cell? ⟨w.heap.size,0,none⟩=some (.int .i64 k):=hG.cell 0
 have hlt:w.heap.size<W.heap.size:=hG.lt
 have HG:=Ω hG
 have HB:=Ω hB
 clear hW hG hB
 go_upto_region 2 with (go_at_call 87;refine (HF.out W).mono ?_;rintro r W1 ⟨rfl,hb1⟩;have HB1:=Ω hb1;clear hb1)
 refine wp_world ?_
 intro W3 hW3
 have hX:Blk W3 W1.heap.size 119 #[.bool nm,.int .i64 a,.bool th,.bool mo]:=by rw [←hW3];exact Blk.new_at _ _ _ rfl
 have hG:Blk W3 w.heap.size 45 #[.int .i64 k,.string sn,.slice Aa na ca,.slice At nt ct,.slice Ae me ce]:=by rw [←hW3];exact (HG.out.below HB1.out hlt).alloc _
 have hB:Below w.heap.size w W3:=by rw [←hW3];exact (HB.out.trans (HB1.out.mono HB.out.size)).alloc (Nat.le_trans HB.out.size HB1.out.size) _
 clear a0
 have b2:W3.cell? ⟨w.heap.size,2,none⟩=some (.slice Aa na ca):=hG.cell 2
 have x1:W3.cell? ⟨W1.heap.size,1,none⟩=some (.int .i64 a):=hX.cell 1
 have HB3:=Ω hB
 clear hW3 hX hG hB hlt HB HB1 HG
 go_wp2
 go_ret
 exact ⟨rfl,HB3.out⟩
def StmtAt (d m:Nat):Prop:=∀(s:LStmt) (va vt ve:Value) (w:World),SlR w (· < w.heap.size) 5 (RExpr (d+1) w (· < w.heap.size)) va s.args→SlR w (· < w.heap.size) 5 (RStmt (d+1) w (· < w.heap.size)) vt s.thn→SlR w (· < w.heap.size) 5 (RStmt (d+1) w (· < w.heap.size)) ve s.els→
 Calls Tryz.prog 65 #[.agg #[.int .i64 s.kind,.string s.name,va,vt,ve],.int .i64 (m:Int)] w fun r w'=>r=.returned (.bool (stmtB (d+1) m s))∧Below w.heap.size w w'
def TStmtsAt (d m:Nat):Prop:=∀(l:List LStmt) (v:Value) (w:World),SlR w (· < w.heap.size) 5 (RStmt (d+1) w (· < w.heap.size)) v l→
 Calls Tryz.prog 44 #[v,.int .i64 (m:Int)] w fun r w'=>r=.returned (.bool (l.all (stmtB (d+1) m)))∧Below w.heap.size w w'
theorem stmt1_pred (d:Nat) (l:List LExpr) (w:World):Pred_exp d 89 #[] (fun x=>!(deepE 40 x && wellE (d+1) x)) l w:=by
 intro W cs x hx hr hb
 obtain ⟨va,rfl,hs⟩:=hr
 obtain ⟨A,c,hva,_,_⟩:=hs.val
 subst hva
 have HB:=Ω hb
 have HS:=Ω (fun (X:World) (hx:Below W.heap.size W X)=>rightx_any d x (.slice A x.args.length c) X (hs.imp (fun b h=>ltle h hx.size) (fun b h=>hx.block b h) (fun _ _ _ r=>RExpr.imp (fun b h=>ltle h hx.size) (fun b h=>hx.block b h) _ r)))
 clear hb hs
 show Calls Tryz.prog 89 #[.agg #[.int .i64 x.kind,.int .i64 x.op,.int .i64 x.n,.string x.name,.slice A x.args.length c]] W _
 go_enter Tryz.func89,Tryz.ntmps89
 go_wp2_with (go_at_call 90;refine (HS.out _ (below1 _ _)).mono ?_;rintro e w' ⟨rfl,hb2⟩)
 go_ret
 exact ⟨by rw [Bool.not_and];rfl,HB.out.trans (((below1 _ _).trans (hb2.mono (by simp))).mono HB.out.size)⟩
theorem stmts1_pred (d m:Nat) (h:StmtAt d m) (l:List LStmt) (nb:Nat) (w:World) (hn:w.cell? ⟨nb,0,none⟩=some (.int .i64 (m:Int))) (hlt:nb<w.heap.size):Pred_stm d 64 #[.pointer (some ⟨nb,0,none⟩)] (fun x=>!stmtB (d+1) m x) l w:=by
 intro W cs x hx hr hb
 obtain ⟨va,vt,ve,rfl,h1,h2,h3⟩:=hr
 have hc:W.cell? ⟨nb,0,none⟩=some (.int .i64 (m:Int)):=(hb.cell (p:=⟨nb,0,none⟩) hlt).trans hn
 have hnb:nb<W.heap.size:=ltle hlt hb.size
 obtain ⟨Aa,ca,rfl,_,_⟩:=h1.val
 obtain ⟨At,ct,rfl,_,_⟩:=h2.val
 obtain ⟨Ae,ce,rfl,_,_⟩:=h3.val
 have HB:=Ω hb
 have HS:=Ω (fun (X:World) (hx:Below W.heap.size W X)=>h x (.slice Aa x.args.length ca) (.slice At x.thn.length ct) (.slice Ae x.els.length ce) X (h1.imp (fun b h=>ltle h hx.size) (fun b h=>hx.block b h) (fun _ _ _ r=>RExpr.imp (fun b h=>ltle h hx.size) (fun b h=>hx.block b h) _ r))
  (h2.imp (fun b h=>ltle h hx.size) (fun b h=>hx.block b h) (fun _ _ _ r=>RStmt.up d (Nat.le_succ d) (RStmt.imp (fun b h=>ltle h hx.size) (fun b h=>hx.block b h) _ r))) (h3.imp (fun b h=>ltle h hx.size) (fun b h=>hx.block b h) (fun _ _ _ r=>RStmt.up d (Nat.le_succ d) (RStmt.imp (fun b h=>ltle h hx.size) (fun b h=>hx.block b h) _ r))))
 clear hb hn h1 h2 h3 h
 show Calls Tryz.prog 64 #[.agg #[.int .i64 x.kind,.string x.name,.slice Aa x.args.length ca,.slice At x.thn.length ct,.slice Ae x.els.length ce],.pointer (some ⟨nb,0,none⟩)] W _
 go_enter Tryz.func64,Tryz.ntmps64
 go_wp2_with (go_at_call 65;refine (HS.out _ (below1 _ _)).mono ?_;rintro e w' ⟨rfl,hb2⟩)
 go_ret
 exact ⟨rfl,HB.out.trans (((below1 _ _).trans (hb2.mono (by simp))).mono HB.out.size)⟩
theorem stmts_any (d m:Nat) (h:StmtAt d m):TStmtsAt d m:=by
 intro l v w hv
 obtain ⟨A,c,rfl,_,_⟩:=hv.val
 have HV:=Ω hv
 clear hv
 go_enter Tryz.func44,Tryz.ntmps44
 go_upto_region 1 with fail
 refine wp_world ?_
 intro W hW
 have hB:Below w.heap.size w W:=by rw [←hW];exact below1 _ _
 have hs:W.heap.size=w.heap.size+1:=by rw [←hW];simp
 have c3:W.cell? ⟨w.heap.size,0,none⟩=some (.int .i64 (m:Int)):=by rw [←hW];exact (Blk.new _ _ _).cell 0
 have hi:=con_stmts1 d (.pointer (some ⟨w.heap.size,0,none⟩)) l (.slice A l.length c) (fun x=>!stmtB (d+1) m x) W (HV.out.imp (fun b h=>ltle h hB.size) (fun b h=>hB.block b h) (fun _ _ _ r=>RStmt.imp (fun b h=>ltle h hB.size) (fun b h=>hB.block b h) _ r)) (stmts1_pred d m h l w.heap.size W c3 (by omega))
 have hall:(!l.any fun x=>!stmtB (d+1) m x)=l.all (stmtB (d+1) m):=by
  rw [List.not_any_eq_all_not]
  simp
 have HI:=Ω hi
 have HB:=Ω hB
 have HALL:=Ω hall
 clear hW hi hB hall hs h
 go_wp2_with (go_at_call 63;refine HI.out.mono ?_;rintro e w' ⟨rfl,hb⟩)
 go_ret
 exact ⟨by rw [←HALL.out];rfl,HB.out.trans (hb.mono HB.out.size)⟩
theorem stmt_any (d:Nat):∀m:Nat,m≤1000→StmtAt d m
 |0,_=>by
  intro s va vt ve w h1 h2 h3
  obtain ⟨Aa,ca,rfl,_,_⟩:=h1.val
  obtain ⟨At,ct,rfl,_,_⟩:=h2.val
  obtain ⟨Ae,ce,rfl,_,_⟩:=h3.val
  show Calls Tryz.prog 65 #[.agg #[.int .i64 s.kind,.string s.name,.slice Aa s.args.length ca,.slice At s.thn.length ct,.slice Ae s.els.length ce],.int .i64 ((0:Nat):Int)] w fun r w'=>r=.returned (.bool false)∧Below w.heap.size w w'
  have hf:=fun X=>form_any s.kind X
  rcases hq:formL s.kind with ⟨nm,a,th,mo,ok⟩
  cases ok with
  |false=>exact stmt_none s.name s.args.length s.thn.length s.els.length a 0 Aa At Ae ca ct ce w s.kind nm th mo false rfl (fun X=>by have:=hf X;unfold formV at this;rw [hq] at this;exact this)
  |true=>exact stmt_zero s.name s.args.length s.thn.length s.els.length a 0 Aa At Ae ca ct ce w s.kind nm th mo true rfl rfl (fun X=>by have:=hf X;unfold formV at this;rw [hq] at this;exact this)
 |m+1,hm=>by
  intro s va vt ve w h1 h2 h3
  have IH:=stmts_any d m (stmt_any d m (by omega))
  obtain ⟨Aa,ca,rfl,_,_⟩:=h1.val
  obtain ⟨At,ct,rfl,_,_⟩:=h2.val
  obtain ⟨Ae,ce,rfl,_,_⟩:=h3.val
  have e1:((m+1:Nat):Int)=(m:Int)+1:=by omega
  rw [e1]
  have hA:∀X,Below w.heap.size w X→Calls Tryz.prog 88 #[.slice Aa s.args.length ca,.func (.func 89) #[] #[]] X fun r w'=>r=.returned (.bool (!(s.args.all fun e=>deepE 40 e && wellE (d+1) e)))∧Below X.heap.size X w':=fun X hx=>by
   have h:=con_stmt1 d s.args (.slice Aa s.args.length ca) (fun x=>!(deepE 40 x && wellE (d+1) x)) X (h1.imp (fun b h=>ltle h hx.size) (fun b h=>hx.block b h) (fun _ _ _ r=>RExpr.imp (fun b h=>ltle h hx.size) (fun b h=>hx.block b h) _ r)) (stmt1_pred d s.args X)
   have hall:(s.args.any fun x=>!(deepE 40 x && wellE (d+1) x))=!(s.args.all fun e=>deepE 40 e && wellE (d+1) e):=by
    rw [List.all_eq_not_any_not];simp
   rw [hall] at h
   exact h
  have hT:=fun (X:World) (hx:Below w.heap.size w X)=>IH s.thn (.slice At s.thn.length ct) X (h2.imp (fun b h=>ltle h hx.size) (fun b h=>hx.block b h) (fun _ _ _ r=>RStmt.imp (fun b h=>ltle h hx.size) (fun b h=>hx.block b h) _ r))
  have hE:=fun (X:World) (hx:Below w.heap.size w X)=>IH s.els (.slice Ae s.els.length ce) X (h3.imp (fun b h=>ltle h hx.size) (fun b h=>hx.block b h) (fun _ _ _ r=>RStmt.imp (fun b h=>ltle h hx.size) (fun b h=>hx.block b h) _ r))
  have hf:=fun X=>form_any s.kind X
  have hbare:=bare_form s
  rcases hq:formL s.kind with ⟨nm,a,th,mo,ok⟩
  rw [hq] at hbare
  have hf2:∀X,Calls Tryz.prog 87 #[.int .i64 s.kind] X fun r w'=>r=.returned (.tuple #[.agg #[.bool nm,.int .i64 a,.bool th,.bool mo],.bool ok])∧Below X.heap.size X w':=fun X=>by
   have:=hf X;unfold formV at this;rw [hq] at this;exact this
  have hres:stmtB (d+1) (m+1) s=(bareS s && (s.args.all fun e=>deepE 40 e && wellE (d+1) e) && s.thn.all (stmtB (d+1) m) && s.els.all (stmtB (d+1) m)):=rfl
  rw [hres]
  by_cases hl:ok=true∧(s.args.length:Int)=a
  case neg=>
   have hb0:bareS s=false:=by
    rw [hbare]
    by_cases ho:ok=true
    ·have:¬(s.args.length:Int)=a:=fun h=>hl ⟨ho,h⟩
     simp [this]
    ·simp [Bool.not_eq_true] at ho
     simp [ho]
   rw [hb0]
   cases ok with
   |false=>
    have:=stmt_none s.name s.args.length s.thn.length s.els.length a (m+1) Aa At Ae ca ct ce w s.kind nm th mo false rfl hf2
    rw [e1] at this
    exact this
   |true=>exact stmt_len s.name s.args.length s.thn.length s.els.length a m Aa At Ae ca ct ce w s.kind nm th mo true rfl (fun h=>hl ⟨rfl,h⟩) hf2
  obtain ⟨rfl,hl⟩:=hl
  by_cases h10:s.kind=10
  ·have ho:formL s.kind=(false,1,false,false,true):=by rw [h10];rfl
   rw [hq] at ho
   injection ho with o1 o2
   injection o2 with o2 o3
   injection o3 with o3 o4
   injection o4 with o4 o5
   subst o1 o2 o3 o4
   have hl1:s.args.length=1:=by omega
   obtain ⟨b,o,c',hv,_,_,hbl,hel⟩:=h1.form (by omega)
   have hAa:Aa=some ⟨b,o,none⟩:=by injection hv
   subst hAa
   obtain ⟨cs,_,⟨vq,rfl,_⟩,hc⟩:=hel 0 (by omega)
   have hc0:w.cell? ⟨b,o,none⟩=some (.int .i64 (s.args[0]'(by omega)).kind):=by
    have:=hc.at_ (j:=0) rfl
    simpa using this
   have h5:(s.args.all fun e=>decide (e.kind=5))=decide ((s.args[0]'(by omega)).kind=5):=by
    obtain ⟨k,nm,l,t,e⟩:=s
    match l,hl1 with
    |[x],_=>
     show ([x].all fun e=>decide (e.kind=5))=decide (x.kind=5)
     simp
   have hc:=stmt_call s.name s.args.length s.thn.length s.els.length m At Ae ca ct ce w _ _ _ _ (by omega) b o _ hbl (fun _=>hc0) rfl (fun X=>by have:=hf2 X;rw [h10] at this;exact this) hA hT hE
   rw [h10]
   refine hc.mono ?_
   rintro r w' ⟨rfl,hb⟩
   refine ⟨?_,hb⟩
   rw [hbare,h10,h5,dT (rfl:(10:Int)=10)]
   simp only [Bool.not_true,Bool.false_or,Bool.true_and]
  ·have hk:(s.kind == 10)=false:=by rw [beq_dec];exact dF h10
   have hd:decide (s.kind=10)=false:=dF h10
   have fin:∀(b0:Bool),b0=(decide ((s.args.length:Int)=a) && (th || decide (s.thn.length=0)) && (mo || decide (s.els.length=0)) && (nm == nameB s.name) && (nm || decide (s.name=⟨#[]⟩)) && true && (s.args.all fun e=>deepE 40 e && wellE (d+1) e) && s.thn.all (stmtB (d+1) m) && s.els.all (stmtB (d+1) m))→b0=(bareS s && (s.args.all fun e=>deepE 40 e && wellE (d+1) e) && s.thn.all (stmtB (d+1) m) && s.els.all (stmtB (d+1) m)):=fun b0 h=>by
    rw [h,hbare,hd]
    simp only [Bool.not_false,Bool.true_or,Bool.true_and]
   have hform:(nm,th,mo)=(true,false,false)∨(nm,th,mo)=(false,true,true)∨(nm,th,mo)=(false,true,false)∨(nm,th,mo)=(false,false,false):=by
    have h:=hq
    unfold formL at h
    repeat' split at h
    all_goals (injection h with o1 o2;injection o2 with o2 o3;injection o3 with o3 o4;injection o4 with o4 o5;subst o1 o3 o4;simp)
   rcases hform with h|h|h|h
   all_goals
    injection h with o1 o2
    injection o2 with o2 o3
    subst o1 o2 o3
    first
     |exact (stmt_set s.name s.args.length s.thn.length s.els.length a m Aa At Ae ca ct ce w _ _ _ _ (by omega) s.kind hk rfl hf2 hA hT hE).mono (fun r w' ⟨e,hb⟩=>⟨e.trans (congrArg (fun b=>Ending.returned (Value.bool b)) (fin _ rfl)),hb⟩)
     |exact (stmt_if s.name s.args.length s.thn.length s.els.length a m Aa At Ae ca ct ce w _ _ _ _ (by omega) s.kind hk rfl hf2 hA hT hE).mono (fun r w' ⟨e,hb⟩=>⟨e.trans (congrArg (fun b=>Ending.returned (Value.bool b)) (fin _ rfl)),hb⟩)
     |exact (stmt_while s.name s.args.length s.thn.length s.els.length a m Aa At Ae ca ct ce w _ _ _ _ (by omega) s.kind hk rfl hf2 hA hT hE).mono (fun r w' ⟨e,hb⟩=>⟨e.trans (congrArg (fun b=>Ending.returned (Value.bool b)) (fin _ rfl)),hb⟩)
     |exact (stmt_plain s.name s.args.length s.thn.length s.els.length a m Aa At Ae ca ct ce w _ _ _ _ (by omega) s.kind hk rfl hf2 hA hT hE).mono (fun r w' ⟨e,hb⟩=>⟨e.trans (congrArg (fun b=>Ending.returned (Value.bool b)) (fin _ rfl)),hb⟩)
end Go.Proofs.YtmignlclfbaifaaGreat
namespace Go.Proofs.YtmignlclfbaifaaGreat
open Go.RowKit
def arrB (a:ByteArray × Int):Bool:=nameB a.1 && decide (1≤a.2∧a.2≤1048576)
theorem arrB_low {x:ByteArray × Int} (h:x.2<1):arrB x=false:=by
 unfold arrB
 rw [Bool.and_eq_false_iff]
 exact .inr (dF fun h2=>by have:=h2.1;omega)
theorem arrB_high {x:ByteArray × Int} (h:1048576<x.2):arrB x=false:=by
 unfold arrB
 rw [Bool.and_eq_false_iff]
 exact .inr (dF fun h2=>by have:=h2.2;omega)
theorem arrB_ok {x:ByteArray × Int} (hn:true=nameB x.1) (h1:¬x.2<1) (h2:¬1048576<x.2):arrB x=true:=by
 unfold arrB
 rw [←hn,Bool.true_and]
 exact dT ⟨by omega,by omega⟩
theorem right_eq (D:Nat) (p:LProg):rightB D p=(p.arrays.all arrB && p.funcs.all (funcB D)):=rfl
theorem all_false {α:Type} {q:α→Bool} {l:List α} {i:Nat} (hi:i<l.length) (h:q l[i]=false):l.all q=false:=by
 rw [List.all_eq_false]
 exact ⟨_,List.getElem_mem hi,by rw [h];decide⟩
theorem all_true {α:Type} {q:α→Bool} {l:List α} (h:∀(j:Nat) (hj:j<l.length),q l[j]=true):l.all q=true:=by
 rw [List.all_eq_true]
 intro x hx
 obtain ⟨i,hi,rfl⟩:=List.getElem_of_mem hx
 exact h i hi
theorem named_one (s:ByteArray) (W:World) (g:Nat) (t:TypeId) (h:Blk W g t #[.string s]):Calls Tryz.prog 43 #[.slice (some ⟨g,0,none⟩) 1 1] W fun e w'=>e=.returned (.bool (nameB s))∧Below W.heap.size W w':=by
 refine (named_any [s] _ W (SlR.lit [[.string s]] h rfl ⟨⟨rfl,rfl⟩,trivial⟩ rfl h.lt (by simp))).mono ?_
 rintro e w' ⟨rfl,hb⟩
 exact ⟨by simp,hb⟩
set_option maxRecDepth 100000 in
set_option maxHeartbeats 1000000 in
theorem right_any (d:Nat) (p:LProg) (A1 A2:Option Addr) (c1 c2:Nat) (w:World) (ha:SlR w (· < w.heap.size) 2 RArr (.slice A1 p.arrays.length c1) p.arrays) (hf:SlR w (· < w.heap.size) 4 (RFunc (d+1) w (· < w.heap.size)) (.slice A2 p.funcs.length c2) p.funcs) :
  Calls Tryz.prog 27 #[.agg #[.slice A1 p.arrays.length c1,.slice A2 p.funcs.length c2]] w fun e w'=>e=.returned (.bool (rightB (d+1) p))∧Below w.heap.size w w':=by
 have hlen1:p.arrays.length≤maxLen:=by obtain ⟨_,_,h,h1,h2⟩:=ha.val;injection h with _ _ e;subst e;omega
 have hlen2:p.funcs.length≤maxLen:=by obtain ⟨_,_,h,h1,h2⟩:=hf.val;injection h with _ _ e;subst e;omega
 unfold maxLen at hlen1 hlen2
 have HA:=Ω ha
 have HF:=Ω hf
 clear ha hf
 go_enter Tryz.func27,Tryz.ntmps27
 go_upto_region 1 with fail
 refine wp_world ?_
 intro W hW
 have hG:Blk W w.heap.size 27 #[.slice A1 p.arrays.length c1,.slice A2 p.funcs.length c2]:=by rw [←hW];exact Blk.new _ _ _
 have hB:Below w.heap.size w W:=by rw [←hW];exact below1 _ _
 have a0:W.cell? ⟨w.heap.size,0,none⟩=some (.slice A1 p.arrays.length c1):=hG.cell 0
 have hlt:w.heap.size<W.heap.size:=hG.lt
 have HG:=Ω hG
 have HB:=Ω hB
 clear hW hG hB
 go_wp2
 go_loopw [4,10] (fun _ i wr=>∃k:Nat,k≤p.arrays.length∧i=.int .i64 k∧(∀j (h:j<p.arrays.length),j<k→arrB p.arrays[j]=true)∧Below W.heap.size W wr) (fun _ i _=>p.arrays.length-(intOf i).toNat)
 case atStart=>exact ⟨0,by omega,rfl,fun j _ h=>by omega,Below.refl _ _⟩
 case round=>
  obtain ⟨k,hk,rfl,hno,hb⟩:=hrel
  have HNO:=Ω hno
  clear hno
  by_cases hlt2:k<p.arrays.length
  ·have d1:decide ((k:Int)<(p.arrays.length:Int))=true:=dT (by omega)
   obtain ⟨b,off,c',hform,_,_,hbl,hel⟩:=HA.out.form (by omega)
   obtain ⟨cs,hcl,hcs,hcell⟩:=hel k hlt2
   obtain ⟨rfl,rfl⟩:A1=some ⟨b,off,none⟩∧c1=c':=by injection hform with h1 _ h2;exact ⟨h1,h2⟩
   obtain ⟨x,hx⟩:∃x,x=p.arrays[k]:=⟨_,rfl⟩
   rw [←hx] at hcs
   obtain rfl:cs=[.string x.1,.int .i64 x.2]:=hcs
   have hbw:Below w.heap.size w wr:=HB.out.trans (hb.mono HB.out.size)
   have hcw:=hcell.keep (hbw.block b hbl)
   have i0:wr.cell? ⟨b,off+k*2,none⟩=some (.string x.1):=by have h:=hcw.at_ (j:=0) rfl;simpa using h
   have i1:wr.cell? ⟨b,off+k*2+1,none⟩=some (.int .i64 x.2):=by have h:=hcw.at_ (j:=1) rfl;simpa using h
   obtain ⟨bn,hbn⟩:∃b,b=nameB x.1:=⟨_,rfl⟩
   have HN:Hid (∀(W:World) (g:Nat) (t:TypeId),Blk W g t #[.string x.1]→Calls Tryz.prog 43 #[.slice (some ⟨g,0,none⟩) 1 1] W fun e w'=>e=.returned (.bool bn)∧Below W.heap.size W w'):=Ω (fun W g t h=>by rw [hbn];exact named_one x.1 W g t h)
   have HX:=Ω hx
   have HBN:=Ω hbn
   have HB2:=Ω hb
   have HBW:=Ω hbw
   have hwr:W.heap.size≤wr.heap.size:=hb.size
   clear hcell hcw hel hform hx hbn hb hbw
   have HFIN:Hid (∀X,arrB x=false→Below wr.heap.size wr X→Ending.returned (.bool false)=Ending.returned (.bool (rightB (d+1) p))∧Below w.heap.size w X):=Ω (fun X h hX=>by
    refine ⟨?_,HBW.out.trans (hX.mono HBW.out.size)⟩
    rw [right_eq,all_false hlt2 (by rw [←HX.out];exact h)]
    rfl)
   cases bn with
   |false=>
    go_wp2_with (go_at_call 43;refine (HN.out _ _ _ (Blk.new_at _ _ _ (by simp))).mono ?_;rintro e w1 ⟨rfl,hb1⟩;have HB1:=Ω ((below2 wr _ _).trans (hb1.mono (by simp;omega)));have e1:=(hb1.cell (p:=⟨wr.heap.size,1,none⟩) (by simp;omega)).trans (((Blk.new wr 53 #[.string x.1,.int .i64 x.2]).alloc _).cell 1);clear hb1)
    go_ret
    exact HFIN.out _ (by unfold arrB;rw [←HBN.out,Bool.false_and]) HB1.out
   |true=>
   by_cases h1:x.2<1
   case pos=>
    have d2:decide (x.2<1)=true:=dT h1
    have HR:Hid (arrB x=false):=Ω (arrB_low h1)
    clear h1
    go_wp2_with (go_at_call 43;refine (HN.out _ _ _ (Blk.new_at _ _ _ (by simp))).mono ?_;rintro e w1 ⟨rfl,hb1⟩;have HB1:=Ω ((below2 wr _ _).trans (hb1.mono (by simp;omega)));have e1:=(hb1.cell (p:=⟨wr.heap.size,1,none⟩) (by simp;omega)).trans (((Blk.new wr 53 #[.string x.1,.int .i64 x.2]).alloc _).cell 1);clear hb1)
    go_ret
    exact HFIN.out _ HR.out HB1.out
   have d2:decide (x.2<1)=false:=dF h1
   by_cases h2:1048576<x.2
   case pos=>
    have d3:decide (x.2 > 1048576)=true:=dT h2
    have d4:decide (1048576<x.2)=true:=dT h2
    have HR:Hid (arrB x=false):=Ω (arrB_high h2)
    clear h1 h2
    go_wp2_with (go_at_call 43;refine (HN.out _ _ _ (Blk.new_at _ _ _ (by simp))).mono ?_;rintro e w1 ⟨rfl,hb1⟩;have HB1:=Ω ((below2 wr _ _).trans (hb1.mono (by simp;omega)));have e1:=(hb1.cell (p:=⟨wr.heap.size,1,none⟩) (by simp;omega)).trans (((Blk.new wr 53 #[.string x.1,.int .i64 x.2]).alloc _).cell 1);clear hb1)
    go_ret
    exact HFIN.out _ HR.out HB1.out
   have d3:decide (x.2 > 1048576)=false:=dF h2
   have d4:decide (1048576<x.2)=false:=dF h2
   have HR:Hid (arrB x=true):=Ω (arrB_ok HBN.out h1 h2)
   clear h1 h2
   go_wp2_with (go_at_call 43;refine (HN.out _ _ _ (Blk.new_at _ _ _ (by simp))).mono ?_;rintro e w1 ⟨rfl,hb1⟩;have HB1:=Ω ((below2 wr _ _).trans (hb1.mono (by simp;omega)));have e1:=(hb1.cell (p:=⟨wr.heap.size,1,none⟩) (by simp;omega)).trans (((Blk.new wr 53 #[.string x.1,.int .i64 x.2]).alloc _).cell 1);clear hb1)
   go_roundw
   case rel=>
    refine ⟨k+1,by omega,by go_num,?_,HB2.out.trans (HB1.out.mono HB2.out.size)⟩
    intro j hj hjk
    by_cases e:j<k
    ·exact HNO.out j hj e
    ·obtain rfl:j=k:=by omega
     rw [←HX.out];exact HR.out
   case measure=>simp [intOf];omega
  ·obtain rfl:k=p.arrays.length:=by omega
   have HAR:Hid (p.arrays.all arrB=true):=Ω (all_true fun j hj=>HNO.out j hj hj)
   have a1:wr.cell? ⟨w.heap.size,1,none⟩=some (.slice A2 p.funcs.length c2):=(hb.cell (p:=⟨w.heap.size,1,none⟩) hlt).trans (HG.out.cell 1)
   have HB3:=Ω (HB.out.trans (hb.mono HB.out.size))
   clear hb HNO HG a0 hlt HB
   obtain ⟨wo,hwo⟩:∃wo,wo=wr:=⟨_,rfl⟩
   subst hwo
   go_wp2
   have HLEN:=Ω hlen2
   go_loopw [6,33] (fun _ i wr=>∃k:Nat,k≤p.funcs.length∧i=.int .i64 k∧(∀j (h:j<p.funcs.length),j<k→funcB (d+1) p.funcs[j]=true)∧Below wo.heap.size wo wr) (fun _ i _=>p.funcs.length-(intOf i).toNat)
   case atStart=>exact ⟨0,by omega,rfl,fun j _ h=>by omega,Below.refl _ _⟩
   case round=>
    obtain ⟨k,hk,rfl,hno,hb⟩:=hrel
    have HNO:=Ω hno
    clear hno
    by_cases hlt2:k<p.funcs.length
    ·have d1:decide ((k:Int)<(p.funcs.length:Int))=true:=dT (by omega)
     obtain ⟨b,off,c',hform,_,_,hbl,hel⟩:=HF.out.form (by omega)
     obtain ⟨cs,hcl,hcs,hcell⟩:=hel k hlt2
     obtain ⟨rfl,rfl⟩:A2=some ⟨b,off,none⟩∧c2=c':=by injection hform with h1 _ h2;exact ⟨h1,h2⟩
     obtain ⟨x,hx⟩:∃x,x=p.funcs[k]:=⟨_,rfl⟩
     rw [←hx] at hcs
     obtain ⟨vp,vl,vb,rfl,h1,h2,h3⟩:=hcs
     obtain ⟨Ap,cp,rfl,_,_⟩:=h1.val
     obtain ⟨Al,cl,rfl,_,_⟩:=h2.val
     obtain ⟨Ab,cb,rfl,_,_⟩:=h3.val
     have hbw:Below w.heap.size w wr:=HB3.out.trans (hb.mono HB3.out.size)
     have hcw:=hcell.keep (hbw.block b hbl)
     have i0:wr.cell? ⟨b,off+k*4,none⟩=some (.string x.name):=by have h:=hcw.at_ (j:=0) rfl;simpa using h
     have i1:wr.cell? ⟨b,off+k*4+1,none⟩=some (.slice Ap x.params.length cp):=by have h:=hcw.at_ (j:=1) rfl;simpa using h
     have i2:wr.cell? ⟨b,off+k*4+2,none⟩=some (.slice Al x.locals.length cl):=by have h:=hcw.at_ (j:=2) rfl;simpa using h
     have i3:wr.cell? ⟨b,off+k*4+3,none⟩=some (.slice Ab x.body.length cb):=by have h:=hcw.at_ (j:=3) rfl;simpa using h
     obtain ⟨bn,hbn⟩:∃b,b=nameB x.name:=⟨_,rfl⟩
     obtain ⟨bp,hbp⟩:∃b,b=x.params.all nameB:=⟨_,rfl⟩
     obtain ⟨bl,hbl2⟩:∃b,b=x.locals.all nameB:=⟨_,rfl⟩
     obtain ⟨bs,hbs⟩:∃b,b=x.body.all (stmtB (d+1) 40):=⟨_,rfl⟩
     obtain ⟨np,hnp⟩:∃n,n=x.params.length:=⟨_,rfl⟩
     have HFB:Hid (funcB (d+1) x=(bn && bp && bl && decide (np≤6) && bs)):=Ω (by rw [hbn,hbp,hbl2,hbs,hnp];rfl)
     have HN:Hid (∀(W:World) (g:Nat) (t:TypeId),Blk W g t #[.string x.name]→Calls Tryz.prog 43 #[.slice (some ⟨g,0,none⟩) 1 1] W fun e w'=>e=.returned (.bool bn)∧Below W.heap.size W w'):=Ω (fun W g t h=>by rw [hbn];exact named_one x.name W g t h)
     rw [←hnp] at i1
     have HP:Hid (∀X,Below w.heap.size w X→Calls Tryz.prog 43 #[.slice Ap np cp] X fun e w'=>e=.returned (.bool bp)∧Below X.heap.size X w'):=Ω (fun X hX=>by rw [hbp,hnp];exact named_any x.params _ X (h1.imp (fun b h=>ltle h hX.size) (fun b h=>hX.block b h) fun _ _ _ r=>r))
     have HL:Hid (∀X,Below w.heap.size w X→Calls Tryz.prog 43 #[.slice Al x.locals.length cl] X fun e w'=>e=.returned (.bool bl)∧Below X.heap.size X w'):=Ω (fun X hX=>by rw [hbl2];exact named_any x.locals _ X (h2.imp (fun b h=>ltle h hX.size) (fun b h=>hX.block b h) fun _ _ _ r=>r))
     have HS:Hid (∀X,Below w.heap.size w X→Calls Tryz.prog 44 #[.slice Ab x.body.length cb,.int .i64 40] X fun e w'=>e=.returned (.bool bs)∧Below X.heap.size X w'):=Ω (fun X hX=>by rw [hbs];exact stmts_any d 40 (stmt_any d 40 (by decide)) x.body _ X (h3.imp (fun b h=>ltle h hX.size) (fun b h=>hX.block b h) fun _ _ _ r=>RStmt.imp (fun b h=>ltle h hX.size) (fun b h=>hX.block b h) _ r))
     have HX:=Ω hx
     have HB4:=Ω hb
     have HBW:=Ω hbw
     have hwr:w.heap.size≤wr.heap.size:=hbw.size
     clear hcell hcw hel hform hx hb hbw h1 h2 h3 hbn hbp hbl2 hbs hnp
     have HFIN:Hid (∀X,funcB (d+1) x=false→Below wr.heap.size wr X→Ending.returned (.bool false)=Ending.returned (.bool (rightB (d+1) p))∧Below w.heap.size w X):=Ω (fun X h hX=>by
      refine ⟨?_,HBW.out.trans (hX.mono HBW.out.size)⟩
      rw [right_eq,HAR.out,all_false hlt2 (by rw [←HX.out];exact h)]
      rfl)
     have tok0:Hid True:=Ω trivial
     have ef:∀X,Below wr.heap.size wr X→Below w.heap.size w X:=fun X hX=>HBW.out.trans (hX.mono HBW.out.size)
     have EF:=Ω ef
     clear ef
     cases bn with
     |false=>
      have HR:Hid (funcB (d+1) x=false):=Ω (by rw [HFB.out];simp)
      go_wp2_with (first|(have _t:=tok0;go_at_call 43;refine (HN.out _ _ _ (Blk.new_at _ _ _ (by simp))).mono ?_;clear _t tok0;rintro e w1 ⟨rfl,hb1⟩;have HB1:=Ω ((below2 wr _ _).trans (hb1.mono (by simp;omega)));have HSZ1:Hid (wr.heap.size+1≤w1.heap.size):=Ω (by have:=hb1.size;simp at this;omega);have c11:=(hb1.cell (p:=⟨wr.heap.size,1,none⟩) (by simp;omega)).trans (((Blk.new wr 49 #[.string x.name,.slice Ap np cp,.slice Al x.locals.length cl,.slice Ab x.body.length cb]).alloc _).cell 1);have c21:=(hb1.cell (p:=⟨wr.heap.size,2,none⟩) (by simp;omega)).trans (((Blk.new wr 49 #[.string x.name,.slice Ap np cp,.slice Al x.locals.length cl,.slice Ab x.body.length cb]).alloc _).cell 2);have c31:=(hb1.cell (p:=⟨wr.heap.size,3,none⟩) (by simp;omega)).trans (((Blk.new wr 49 #[.string x.name,.slice Ap np cp,.slice Al x.locals.length cl,.slice Ab x.body.length cb]).alloc _).cell 3);have tok1:Hid True:=Ω trivial;clear hb1))
      go_ret
      exact HFIN.out _ HR.out HB1.out
     |true=>
     cases bp with
     |false=>
      have HR:Hid (funcB (d+1) x=false):=Ω (by rw [HFB.out];simp)
      go_wp2_with (first|(have _t:=tok0;go_at_call 43;refine (HN.out _ _ _ (Blk.new_at _ _ _ (by simp))).mono ?_;clear _t tok0;rintro e w1 ⟨rfl,hb1⟩;have HB1:=Ω ((below2 wr _ _).trans (hb1.mono (by simp;omega)));have HSZ1:Hid (wr.heap.size+1≤w1.heap.size):=Ω (by have:=hb1.size;simp at this;omega);have c11:=(hb1.cell (p:=⟨wr.heap.size,1,none⟩) (by simp;omega)).trans (((Blk.new wr 49 #[.string x.name,.slice Ap np cp,.slice Al x.locals.length cl,.slice Ab x.body.length cb]).alloc _).cell 1);have c21:=(hb1.cell (p:=⟨wr.heap.size,2,none⟩) (by simp;omega)).trans (((Blk.new wr 49 #[.string x.name,.slice Ap np cp,.slice Al x.locals.length cl,.slice Ab x.body.length cb]).alloc _).cell 2);have c31:=(hb1.cell (p:=⟨wr.heap.size,3,none⟩) (by simp;omega)).trans (((Blk.new wr 49 #[.string x.name,.slice Ap np cp,.slice Al x.locals.length cl,.slice Ab x.body.length cb]).alloc _).cell 3);have tok1:Hid True:=Ω trivial;clear hb1)|(have _t:=tok1;go_at_call 43;refine (HP.out _ (EF.out _ HB1.out)).mono ?_;clear _t tok1;rintro e w2 ⟨rfl,hb2⟩;have HB2:=Ω (HB1.out.trans (hb2.mono HB1.out.size));have HSZ2:Hid (wr.heap.size+1≤w2.heap.size):=Ω (Nat.le_trans HSZ1.out hb2.size);have c12:=(hb2.cell (p:=⟨wr.heap.size,1,none⟩) HSZ1.out).trans c11;have c22:=(hb2.cell (p:=⟨wr.heap.size,2,none⟩) HSZ1.out).trans c21;have c32:=(hb2.cell (p:=⟨wr.heap.size,3,none⟩) HSZ1.out).trans c31;have tok2:Hid True:=Ω trivial;clear hb2))
      go_ret
      exact HFIN.out _ HR.out HB2.out
     |true=>
     cases bl with
     |false=>
      have HR:Hid (funcB (d+1) x=false):=Ω (by rw [HFB.out];simp)
      go_wp2_with (first|(have _t:=tok0;go_at_call 43;refine (HN.out _ _ _ (Blk.new_at _ _ _ (by simp))).mono ?_;clear _t tok0;rintro e w1 ⟨rfl,hb1⟩;have HB1:=Ω ((below2 wr _ _).trans (hb1.mono (by simp;omega)));have HSZ1:Hid (wr.heap.size+1≤w1.heap.size):=Ω (by have:=hb1.size;simp at this;omega);have c11:=(hb1.cell (p:=⟨wr.heap.size,1,none⟩) (by simp;omega)).trans (((Blk.new wr 49 #[.string x.name,.slice Ap np cp,.slice Al x.locals.length cl,.slice Ab x.body.length cb]).alloc _).cell 1);have c21:=(hb1.cell (p:=⟨wr.heap.size,2,none⟩) (by simp;omega)).trans (((Blk.new wr 49 #[.string x.name,.slice Ap np cp,.slice Al x.locals.length cl,.slice Ab x.body.length cb]).alloc _).cell 2);have c31:=(hb1.cell (p:=⟨wr.heap.size,3,none⟩) (by simp;omega)).trans (((Blk.new wr 49 #[.string x.name,.slice Ap np cp,.slice Al x.locals.length cl,.slice Ab x.body.length cb]).alloc _).cell 3);have tok1:Hid True:=Ω trivial;clear hb1)|(have _t:=tok1;go_at_call 43;refine (HP.out _ (EF.out _ HB1.out)).mono ?_;clear _t tok1;rintro e w2 ⟨rfl,hb2⟩;have HB2:=Ω (HB1.out.trans (hb2.mono HB1.out.size));have HSZ2:Hid (wr.heap.size+1≤w2.heap.size):=Ω (Nat.le_trans HSZ1.out hb2.size);have c12:=(hb2.cell (p:=⟨wr.heap.size,1,none⟩) HSZ1.out).trans c11;have c22:=(hb2.cell (p:=⟨wr.heap.size,2,none⟩) HSZ1.out).trans c21;have c32:=(hb2.cell (p:=⟨wr.heap.size,3,none⟩) HSZ1.out).trans c31;have tok2:Hid True:=Ω trivial;clear hb2)|(have _t:=tok2;go_at_call 43;refine (HL.out _ (EF.out _ HB2.out)).mono ?_;clear _t tok2;rintro e w3 ⟨rfl,hb3⟩;have HB3_:=Ω (HB2.out.trans (hb3.mono HB2.out.size));have HSZ3:Hid (wr.heap.size+1≤w3.heap.size):=Ω (Nat.le_trans HSZ2.out hb3.size);have c13:=(hb3.cell (p:=⟨wr.heap.size,1,none⟩) HSZ2.out).trans c12;have c23:=(hb3.cell (p:=⟨wr.heap.size,2,none⟩) HSZ2.out).trans c22;have c33:=(hb3.cell (p:=⟨wr.heap.size,3,none⟩) HSZ2.out).trans c32;clear hb3))
      go_ret
      exact HFIN.out _ HR.out HB3_.out
     |true=>
     by_cases hn6:np≤6
     case neg=>
      have d2:decide ((np:Int) > 6)=true:=dT (by omega)
      have d3:decide (6<(np:Int))=true:=dT (by omega)
      have HR:Hid (funcB (d+1) x=false):=Ω (by rw [HFB.out];simp [hn6])
      have hn7:6<np:=by omega
      clear hn6
      go_wp2_with (first|(have _t:=tok0;go_at_call 43;refine (HN.out _ _ _ (Blk.new_at _ _ _ (by simp))).mono ?_;clear _t tok0;rintro e w1 ⟨rfl,hb1⟩;have HB1:=Ω ((below2 wr _ _).trans (hb1.mono (by simp;omega)));have HSZ1:Hid (wr.heap.size+1≤w1.heap.size):=Ω (by have:=hb1.size;simp at this;omega);have c11:=(hb1.cell (p:=⟨wr.heap.size,1,none⟩) (by simp;omega)).trans (((Blk.new wr 49 #[.string x.name,.slice Ap np cp,.slice Al x.locals.length cl,.slice Ab x.body.length cb]).alloc _).cell 1);have c21:=(hb1.cell (p:=⟨wr.heap.size,2,none⟩) (by simp;omega)).trans (((Blk.new wr 49 #[.string x.name,.slice Ap np cp,.slice Al x.locals.length cl,.slice Ab x.body.length cb]).alloc _).cell 2);have c31:=(hb1.cell (p:=⟨wr.heap.size,3,none⟩) (by simp;omega)).trans (((Blk.new wr 49 #[.string x.name,.slice Ap np cp,.slice Al x.locals.length cl,.slice Ab x.body.length cb]).alloc _).cell 3);have tok1:Hid True:=Ω trivial;clear hb1)|(have _t:=tok1;go_at_call 43;refine (HP.out _ (EF.out _ HB1.out)).mono ?_;clear _t tok1;rintro e w2 ⟨rfl,hb2⟩;have HB2:=Ω (HB1.out.trans (hb2.mono HB1.out.size));have HSZ2:Hid (wr.heap.size+1≤w2.heap.size):=Ω (Nat.le_trans HSZ1.out hb2.size);have c12:=(hb2.cell (p:=⟨wr.heap.size,1,none⟩) HSZ1.out).trans c11;have c22:=(hb2.cell (p:=⟨wr.heap.size,2,none⟩) HSZ1.out).trans c21;have c32:=(hb2.cell (p:=⟨wr.heap.size,3,none⟩) HSZ1.out).trans c31;have tok2:Hid True:=Ω trivial;clear hb2)|(have _t:=tok2;go_at_call 43;refine (HL.out _ (EF.out _ HB2.out)).mono ?_;clear _t tok2;rintro e w3 ⟨rfl,hb3⟩;have HB3_:=Ω (HB2.out.trans (hb3.mono HB2.out.size));have HSZ3:Hid (wr.heap.size+1≤w3.heap.size):=Ω (Nat.le_trans HSZ2.out hb3.size);have c13:=(hb3.cell (p:=⟨wr.heap.size,1,none⟩) HSZ2.out).trans c12;have c23:=(hb3.cell (p:=⟨wr.heap.size,2,none⟩) HSZ2.out).trans c22;have c33:=(hb3.cell (p:=⟨wr.heap.size,3,none⟩) HSZ2.out).trans c32;clear hb3))
      go_ret
      exact HFIN.out _ HR.out HB3_.out
     have d2:decide ((np:Int) > 6)=false:=dF (by omega)
     have d3:decide (6<(np:Int))=false:=dF (by omega)
     have hn7:¬6<np:=by omega
     have HFB2:Hid (funcB (d+1) x=bs):=Ω (by rw [HFB.out];simp [hn6])
     clear hn6 HFB
     cases bs with
     |false=>
      go_wp2_with (first|(have _t:=tok0;go_at_call 43;refine (HN.out _ _ _ (Blk.new_at _ _ _ (by simp))).mono ?_;clear _t tok0;rintro e w1 ⟨rfl,hb1⟩;have HB1:=Ω ((below2 wr _ _).trans (hb1.mono (by simp;omega)));have HSZ1:Hid (wr.heap.size+1≤w1.heap.size):=Ω (by have:=hb1.size;simp at this;omega);have c11:=(hb1.cell (p:=⟨wr.heap.size,1,none⟩) (by simp;omega)).trans (((Blk.new wr 49 #[.string x.name,.slice Ap np cp,.slice Al x.locals.length cl,.slice Ab x.body.length cb]).alloc _).cell 1);have c21:=(hb1.cell (p:=⟨wr.heap.size,2,none⟩) (by simp;omega)).trans (((Blk.new wr 49 #[.string x.name,.slice Ap np cp,.slice Al x.locals.length cl,.slice Ab x.body.length cb]).alloc _).cell 2);have c31:=(hb1.cell (p:=⟨wr.heap.size,3,none⟩) (by simp;omega)).trans (((Blk.new wr 49 #[.string x.name,.slice Ap np cp,.slice Al x.locals.length cl,.slice Ab x.body.length cb]).alloc _).cell 3);have tok1:Hid True:=Ω trivial;clear hb1)|(have _t:=tok1;go_at_call 43;refine (HP.out _ (EF.out _ HB1.out)).mono ?_;clear _t tok1;rintro e w2 ⟨rfl,hb2⟩;have HB2:=Ω (HB1.out.trans (hb2.mono HB1.out.size));have HSZ2:Hid (wr.heap.size+1≤w2.heap.size):=Ω (Nat.le_trans HSZ1.out hb2.size);have c12:=(hb2.cell (p:=⟨wr.heap.size,1,none⟩) HSZ1.out).trans c11;have c22:=(hb2.cell (p:=⟨wr.heap.size,2,none⟩) HSZ1.out).trans c21;have c32:=(hb2.cell (p:=⟨wr.heap.size,3,none⟩) HSZ1.out).trans c31;have tok2:Hid True:=Ω trivial;clear hb2)|(have _t:=tok2;go_at_call 43;refine (HL.out _ (EF.out _ HB2.out)).mono ?_;clear _t tok2;rintro e w3 ⟨rfl,hb3⟩;have HB3_:=Ω (HB2.out.trans (hb3.mono HB2.out.size));have HSZ3:Hid (wr.heap.size+1≤w3.heap.size):=Ω (Nat.le_trans HSZ2.out hb3.size);have c13:=(hb3.cell (p:=⟨wr.heap.size,1,none⟩) HSZ2.out).trans c12;have c23:=(hb3.cell (p:=⟨wr.heap.size,2,none⟩) HSZ2.out).trans c22;have c33:=(hb3.cell (p:=⟨wr.heap.size,3,none⟩) HSZ2.out).trans c32;clear hb3)|(go_at_call 44;refine (HS.out _ (EF.out _ HB3_.out)).mono ?_;rintro e w4 ⟨rfl,hb4⟩;have HB4_:=Ω (HB3_.out.trans (hb4.mono HB3_.out.size));clear hb4))
      go_ret
      exact HFIN.out _ HFB2.out HB4_.out
     |true=>
      go_wp2_with (first|(have _t:=tok0;go_at_call 43;refine (HN.out _ _ _ (Blk.new_at _ _ _ (by simp))).mono ?_;clear _t tok0;rintro e w1 ⟨rfl,hb1⟩;have HB1:=Ω ((below2 wr _ _).trans (hb1.mono (by simp;omega)));have HSZ1:Hid (wr.heap.size+1≤w1.heap.size):=Ω (by have:=hb1.size;simp at this;omega);have c11:=(hb1.cell (p:=⟨wr.heap.size,1,none⟩) (by simp;omega)).trans (((Blk.new wr 49 #[.string x.name,.slice Ap np cp,.slice Al x.locals.length cl,.slice Ab x.body.length cb]).alloc _).cell 1);have c21:=(hb1.cell (p:=⟨wr.heap.size,2,none⟩) (by simp;omega)).trans (((Blk.new wr 49 #[.string x.name,.slice Ap np cp,.slice Al x.locals.length cl,.slice Ab x.body.length cb]).alloc _).cell 2);have c31:=(hb1.cell (p:=⟨wr.heap.size,3,none⟩) (by simp;omega)).trans (((Blk.new wr 49 #[.string x.name,.slice Ap np cp,.slice Al x.locals.length cl,.slice Ab x.body.length cb]).alloc _).cell 3);have tok1:Hid True:=Ω trivial;clear hb1)|(have _t:=tok1;go_at_call 43;refine (HP.out _ (EF.out _ HB1.out)).mono ?_;clear _t tok1;rintro e w2 ⟨rfl,hb2⟩;have HB2:=Ω (HB1.out.trans (hb2.mono HB1.out.size));have HSZ2:Hid (wr.heap.size+1≤w2.heap.size):=Ω (Nat.le_trans HSZ1.out hb2.size);have c12:=(hb2.cell (p:=⟨wr.heap.size,1,none⟩) HSZ1.out).trans c11;have c22:=(hb2.cell (p:=⟨wr.heap.size,2,none⟩) HSZ1.out).trans c21;have c32:=(hb2.cell (p:=⟨wr.heap.size,3,none⟩) HSZ1.out).trans c31;have tok2:Hid True:=Ω trivial;clear hb2)|(have _t:=tok2;go_at_call 43;refine (HL.out _ (EF.out _ HB2.out)).mono ?_;clear _t tok2;rintro e w3 ⟨rfl,hb3⟩;have HB3_:=Ω (HB2.out.trans (hb3.mono HB2.out.size));have HSZ3:Hid (wr.heap.size+1≤w3.heap.size):=Ω (Nat.le_trans HSZ2.out hb3.size);have c13:=(hb3.cell (p:=⟨wr.heap.size,1,none⟩) HSZ2.out).trans c12;have c23:=(hb3.cell (p:=⟨wr.heap.size,2,none⟩) HSZ2.out).trans c22;have c33:=(hb3.cell (p:=⟨wr.heap.size,3,none⟩) HSZ2.out).trans c32;clear hb3)|(go_at_call 44;refine (HS.out _ (EF.out _ HB3_.out)).mono ?_;rintro e w4 ⟨rfl,hb4⟩;have HB4_:=Ω (HB3_.out.trans (hb4.mono HB3_.out.size));clear hb4))
      go_roundw
      case rel=>
       refine ⟨k+1,by omega,by go_num,?_,HB4.out.trans (HB4_.out.mono HB4.out.size)⟩
       intro j hj hjk
       by_cases e:j<k
       ·exact HNO.out j hj e
       ·obtain rfl:j=k:=by omega
        rw [←HX.out];exact HFB2.out
      case measure=>simp [intOf];omega
    ·obtain rfl:k=p.funcs.length:=by omega
     have HR:Hid (rightB (d+1) p=true):=Ω (by rw [right_eq,HAR.out,all_true fun j hj=>HNO.out j hj hj];rfl)
     have HB5:=Ω (HB3.out.trans (hb.mono HB3.out.size))
     clear hb HNO HAR
     go_wp2
     go_ret
     exact ⟨by rw [HR.out];rfl,HB5.out⟩
end Go.Proofs.YtmignlclfbaifaaGreat
