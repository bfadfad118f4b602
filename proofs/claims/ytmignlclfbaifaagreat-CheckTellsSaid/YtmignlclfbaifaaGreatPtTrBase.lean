/- Trees of chapter 3 (expressions, statements, functions, programs) as plain data, and how they lie in memory. No walk in sight. What tree.Right and check.Check tell of programs, in plain words, and what holds of programs that are made of what there is. No walk in sight. Programs that are made of what there is: they may be, and nothing is wrong with them. Plain laws. What check.Check tells of made programs that were turned, or into which something wrong was put. Plain laws of 'CheckMade', 'CheckWrong', 'CheckTwice', 'CheckPlaces', 'CheckFirst'. Places of names: plain laws of 'CheckPlaces'. -/
import Derived.Test.YtmignlclfbaifaaGreatPtMem
namespace Go.Proofs.YtmignlclfbaifaaGreat
open Go.RowKit
inductive LExpr where
 |mk (kind op n:Int) (name:ByteArray) (args:List LExpr)
namespace LExpr
def kind:LExpr→Int|mk k _ _ _ _=>k
def op:LExpr→Int|mk _ o _ _ _=>o
def n:LExpr→Int|mk _ _ n _ _=>n
def name:LExpr→ByteArray|mk _ _ _ s _=>s
def args:LExpr→List LExpr|mk _ _ _ _ l=>l
end LExpr
inductive LStmt where
 |mk (kind:Int) (name:ByteArray) (args:List LExpr) (thn els:List LStmt)
namespace LStmt
def kind:LStmt→Int|mk k _ _ _ _=>k
def name:LStmt→ByteArray|mk _ s _ _ _=>s
def args:LStmt→List LExpr|mk _ _ l _ _=>l
def thn:LStmt→List LStmt|mk _ _ _ t _=>t
def els:LStmt→List LStmt|mk _ _ _ _ e=>e
end LStmt
structure LFunc where
 name:ByteArray
 params:List ByteArray
 locals:List ByteArray
 body:List LStmt
structure LProg where
 arrays:List (ByteArray × Int)
 funcs:List LFunc
def exprCells (e:LExpr) (va:Value):List Value:=[.int .i64 e.kind,.int .i64 e.op,.int .i64 e.n,.string e.name,va]
def stmtCells (s:LStmt) (va vt ve:Value):List Value:=[.int .i64 s.kind,.string s.name,va,vt,ve]
def RExpr:Nat→World→(Nat→Prop)→List Value→LExpr→Prop
 |0,_,_,_,_=>False
 |d+1,w,ok,cs,e=>∃va,cs=exprCells e va∧SlR w ok 5 (RExpr d w ok) va e.args
def RStmt:Nat→World→(Nat→Prop)→List Value→LStmt→Prop
 |0,_,_,_,_=>False
 |d+1,w,ok,cs,s=>∃va vt ve,cs=stmtCells s va vt ve∧SlR w ok 5 (RExpr (d+1) w ok) va s.args∧SlR w ok 5 (RStmt d w ok) vt s.thn∧SlR w ok 5 (RStmt d w ok) ve s.els
def RFunc (d:Nat) (w:World) (ok:Nat→Prop) (cs:List Value) (f:LFunc):Prop:=
 ∃vp vl vb,cs=[.string f.name,vp,vl,vb]∧SlR w ok 1 RStr vp f.params∧SlR w ok 1 RStr vl f.locals∧SlR w ok 5 (RStmt d w ok) vb f.body
section
variable {w w':World} {ok ok':Nat→Prop}
theorem RExpr.imp (hok:∀b,ok b→ok' b) (hk:Keeps ok w w'):∀(d:Nat) {cs:List Value} {e:LExpr},RExpr d w ok cs e→RExpr d w' ok' cs e
 |0,_,_,h=>h.elim
 |d+1,_,_,⟨va,e,h⟩=>⟨va,e,h.imp hok hk fun _ _ _ r=>RExpr.imp hok hk d r⟩
theorem RStmt.imp (hok:∀b,ok b→ok' b) (hk:Keeps ok w w'):∀(d:Nat) {cs:List Value} {s:LStmt},RStmt d w ok cs s→RStmt d w' ok' cs s
 |0,_,_,h=>h.elim
 |d+1,_,_,⟨va,vt,ve,e,h1,h2,h3⟩=>⟨va,vt,ve,e,h1.imp hok hk fun _ _ _ r=>r.imp hok hk,h2.imp hok hk fun _ _ _ r=>RStmt.imp hok hk d r,h3.imp hok hk fun _ _ _ r=>RStmt.imp hok hk d r⟩
theorem RFunc.imp {d:Nat} {cs:List Value} {f:LFunc} (h:RFunc d w ok cs f) (hok:∀b,ok b→ok' b) (hk:Keeps ok w w'):RFunc d w' ok' cs f:=by
 obtain ⟨vp,vl,vb,e,h1,h2,h3⟩:=h
 exact ⟨vp,vl,vb,e,h1.imp hok hk fun _ _ _ r=>r,h2.imp hok hk fun _ _ _ r=>r,h3.imp hok hk fun _ _ _ r=>RStmt.imp hok hk d r⟩
theorem RExpr.up:∀(d:Nat) {d':Nat},d≤d'→∀{cs:List Value} {e:LExpr},RExpr d w ok cs e→RExpr d' w ok cs e
 |0,_,_,_,_,h=>h.elim
 |d+1,0,hd,_,_,_=>absurd hd (Nat.not_succ_le_zero d)
 |d+1,d'+1,hd,_,_,⟨va,e,h⟩=>⟨va,e,h.imp (fun _ h=>h) (Keeps.refl _ _) fun _ _ _ r=>RExpr.up d (by omega) r⟩
theorem RStmt.up:∀(d:Nat) {d':Nat},d≤d'→∀{cs:List Value} {s:LStmt},RStmt d w ok cs s→RStmt d' w ok cs s
 |0,_,_,_,_,h=>h.elim
 |d+1,0,hd,_,_,_=>absurd hd (Nat.not_succ_le_zero d)
 |d+1,d'+1,hd,_,_,⟨va,vt,ve,e,h1,h2,h3⟩=>⟨va,vt,ve,e,h1.imp (fun _ h=>h) (Keeps.refl _ _) fun _ _ _ r=>RExpr.up _ (by omega) r,h2.imp (fun _ h=>h) (Keeps.refl _ _) fun _ _ _ r=>RStmt.up d (by omega) r,h3.imp (fun _ h=>h) (Keeps.refl _ _) fun _ _ _ r=>RStmt.up d (by omega) r⟩
end
end Go.Proofs.YtmignlclfbaifaaGreat
namespace Go.Proofs.YtmignlclfbaifaaGreat
def hasS (l:List ByteArray) (s:ByteArray):Bool:=l.any fun x=>decide (x=s)
theorem hasS_iff {l:List ByteArray} {s:ByteArray}:hasS l s=true↔s∈l:=by
 unfold hasS
 rw [List.any_eq_true]
 exact ⟨fun ⟨x,hx,e⟩=>of_decide_eq_true e▸hx,fun h=>⟨s,h,dT rfl⟩⟩
def letterB (c:UInt8):Bool:=c=95 || (97≤c && c≤122) || (65≤c && c≤90)
def digitB (c:UInt8):Bool:=48≤c && c≤57
def strOf (l:List UInt8):ByteArray:=⟨l.toArray⟩
def wordsB:List ByteArray:=[strOf [105,110,116],strOf [105,102],strOf [101,108,115,101],strOf [119,104,105,108,101],strOf [98,114,101,97,107],strOf [99,111,110,116,105,110,117,101],strOf [114,101,116,117,114,110],strOf [112,114,105,110,116],strOf [114,101,97,100],strOf [116,114,97,112]]
def charsB:List UInt8→Bool
 |[]=>false
 |c :: r=>letterB c && r.all fun c=>letterB c || digitB c
def nameB (s:ByteArray):Bool:=decide (s.size≤20) && !hasS wordsB s && charsB s.data.toList
def deepE:Nat→LExpr→Bool
 |0,_=>false
 |m+1,e=>e.args.all (deepE m)
def bareE (e:LExpr):Bool:=
 if e.kind=1 then decide (0≤e.n) && decide (e.op=0) && decide (e.name=⟨#[]⟩) && decide (e.args.length=0)
 else if e.kind=2 then nameB e.name && decide (e.op=0) && decide (e.n=0) && decide (e.args.length=0)
 else if e.kind=3 then decide (e.op=17∨e.op=18∨e.op=19) && decide (e.n=0) && decide (e.name=⟨#[]⟩) && decide (e.args.length=1)
 else if e.kind=4 then decide (1≤e.op∧e.op≤16) && decide (e.n=0) && decide (e.name=⟨#[]⟩) && decide (e.args.length=2)
 else if e.kind=5 then nameB e.name && decide (e.op=0) && decide (e.n=0) && decide (e.args.length≤6)
 else if e.kind=6 then nameB e.name && decide (e.op=0) && decide (e.n=0) && decide (e.args.length=1)
 else if e.kind=7 then decide (e.op=0) && decide (e.n=0) && decide (e.name=⟨#[]⟩) && decide (e.args.length=0)
 else false
def wellE:Nat→LExpr→Bool
 |0,_=>false
 |d+1,e=>bareE e && e.args.all (wellE d)
def bareS (s:LStmt):Bool:=
 if s.kind=1∨s.kind=2 then nameB s.name && decide ((s.args.length:Int)=s.kind) && decide (s.thn.length=0) && decide (s.els.length=0)
 else if s.kind=3 then decide (s.name=⟨#[]⟩) && decide (s.args.length=1)
 else if s.kind=4 then decide (s.name=⟨#[]⟩) && decide (s.args.length=1) && decide (s.els.length=0)
 else if s.kind=5∨s.kind=6 then decide (s.name=⟨#[]⟩) && decide (s.args.length=0) && decide (s.thn.length=0) && decide (s.els.length=0)
 else if s.kind=7∨s.kind=8∨s.kind=9 then decide (s.name=⟨#[]⟩) && decide (s.args.length=1) && decide (s.thn.length=0) && decide (s.els.length=0)
 else if s.kind=10 then decide (s.name=⟨#[]⟩) && decide (s.args.length=1) && decide (s.thn.length=0) && decide (s.els.length=0) && s.args.all fun e=>decide (e.kind=5)
 else false
def stmtB (D:Nat):Nat→LStmt→Bool
 |0,_=>false
 |m+1,s=>bareS s && s.args.all (fun e=>deepE 40 e && wellE D e) && s.thn.all (stmtB D m) && s.els.all (stmtB D m)
def funcB (D:Nat) (f:LFunc):Bool:=nameB f.name && f.params.all nameB && f.locals.all nameB && decide (f.params.length≤6) && f.body.all (stmtB D 40)
def rightB (D:Nat) (p:LProg):Bool:=p.arrays.all (fun a=>nameB a.1 && decide (1≤a.2∧a.2≤1048576)) && p.funcs.all (funcB D)
def firstE {α:Type} (f:α→Int):List α→Int
 |[]=>0
 |x :: l=>if f x≠0 then f x else firstE f l
def ownE (p:LProg) (vars:List ByteArray) (e:LExpr):Int:=
 if e.kind=2 then if hasS vars e.name then 0 else 51
 else if e.kind=6 then if p.arrays.any (fun a=>decide (a.1=e.name)) then 0 else 51
 else if e.kind=5 then match p.funcs.find? (fun f=>decide (f.name=e.name)) with
  |none=>51
  |some f=>if f.params.length=e.args.length then 0 else 52
 else 0
def exprsE (p:LProg) (vars:List ByteArray):Nat→List LExpr→Int
 |0=>fun _=>0
 |d+1=>firstE fun e=>if ownE p vars e≠0 then ownE p vars e else exprsE p vars d e.args
def stmtE (p:LProg) (vars:List ByteArray) (D:Nat) (s:LStmt) (loop:Bool):Int:=
 let e:=if s.kind=5∨s.kind=6 then (if loop then 0 else 53) else if s.kind=1 then (if hasS vars s.name then 0 else 51) else if s.kind=2 then (if p.arrays.any (fun a=>decide (a.1=s.name)) then 0 else 51) else 0
 if e≠0 then e else exprsE p vars D s.args
def allL:Nat→List LStmt→Bool→List (LStmt × Bool)
 |0,_,_=>[]
 |d+1,l,loop=>l.flatMap fun s=>(s,loop) :: (allL d s.thn (loop || decide (s.kind=4))++allL d s.els loop)
def globalsL (p:LProg):List ByteArray:=p.arrays.map (·.1)++p.funcs.map (·.name)
def twiceB (l:List ByteArray):Bool:=!decide l.Nodup
def firstAt {α:Type} (f:α→Int):Nat→List α→Int × Int
 |_,[]=>(0,0)
 |k,x :: l=>if f x≠0 then (f x,k) else firstAt f (k+1) l
def functionE (D:Nat) (p:LProg) (f:LFunc):Int × Int:=
 if twiceB (f.params++f.locals) || (f.params++f.locals).any (fun s=>hasS (globalsL p) s) then (50,0)
 else firstAt (fun x=>stmtE p (f.params++f.locals) D x.1 x.2) 0 (allL D f.body false)
def funcsE (D:Nat) (p:LProg):Nat→List LFunc→Int × Int × Int
 |_,[]=>(0,0,0)
 |k,f :: l=>if (functionE D p f).1≠0 then ((functionE D p f).1,k,(functionE D p f).2) else funcsE D p (k+1) l
def checkE (D:Nat) (p:LProg):Int × Int × Int:=
 if !rightB D p then (1,0,0)
 else if twiceB (globalsL p) then (50,0,0)
 else match p.funcs.find? (fun f=>decide (f.name=strOf [109,97,105,110])) with
  |none=>(54,0,0)
  |some f=>if 0<f.params.length then (54,0,0) else funcsE D p 0 p.funcs
end Go.Proofs.YtmignlclfbaifaaGreat
namespace Go.Proofs.YtmignlclfbaifaaGreat
structure Scp where
 vars:List ByteArray
 arrs:List ByteArray
 funs:List (ByteArray × Nat)
def mainN:ByteArray:=strOf [109,97,105,110]
theorem firstE_zero {α:Type} {f:α→Int}:∀{l:List α},(∀x∈l,f x=0)→firstE f l=0
 |[],_=>rfl
 |x :: l,h=>by
  unfold firstE
  rw [if_neg (by rw [h x (by simp)];decide)]
  exact firstE_zero fun y hy=>h y (by simp [hy])
theorem firstAt_zero {α:Type} {f:α→Int}:∀{l:List α} (k:Nat),(∀x∈l,f x=0)→firstAt f k l=(0,0)
 |[],_,_=>rfl
 |x :: l,k,h=>by
  unfold firstAt
  rw [if_neg (by rw [h x (by simp)];decide)]
  exact firstAt_zero (k+1) fun y hy=>h y (by simp [hy])
theorem funcsE_zero {D:Nat} {p:LProg}:∀{l:List LFunc} (k:Nat),(∀f∈l,(functionE D p f).1=0)→funcsE D p k l=(0,0,0)
 |[],_,_=>rfl
 |x :: l,k,h=>by
  unfold funcsE
  rw [if_neg (by rw [h x (by simp)];decide)]
  exact funcsE_zero (k+1) fun y hy=>h y (by simp [hy])
end Go.Proofs.YtmignlclfbaifaaGreat
namespace Go.Proofs.YtmignlclfbaifaaGreat
theorem funcsE_at {D:Nat} {p:LProg}:∀{l:List LFunc} (k0:Nat) {k:Nat} (hk:k<l.length) {e n:Int},(∀(j:Nat) (hj:j<l.length),j<k→(functionE D p l[j]).1=0)→functionE D p l[k]=(e,n)→e≠0→funcsE D p k0 l=(e,((k0+k:Nat):Int),n)
 |[],_,_,hk,_,_,_,_,_=>absurd hk (Nat.not_lt_zero _)
 |x :: l,k0,0,_,e,n,_,h,he=>by
  have h':functionE D p x=(e,n):=h
  unfold funcsE
  rw [h',if_pos he]
  rfl
 |x :: l,k0,k+1,hk,e,n,h0,h,he=>by
  unfold funcsE
  have hx:(functionE D p x).1=0:=h0 0 (Nat.succ_pos _) (Nat.succ_pos _)
  rw [if_neg (by rw [hx];decide)]
  have hr:=funcsE_at (k0+1) (k:=k) (by simpa using hk) (fun j hj hjk=>h0 (j+1) (by simpa using hj) (by omega)) h he
  rw [hr,show k0+1+k=k0+(k+1) by omega]
theorem allL_append (d:Nat) (l r:List LStmt) (loop:Bool):allL d (l++r) loop=allL d l loop++allL d r loop:=by
 cases d with
 |zero=>rfl
 |succ d=>simp [allL,List.flatMap_append]
theorem firstAt_pre {α:Type} {f:α→Int}:∀{l r:List α} (k:Nat),(∀x∈l,f x=0)→firstAt f k (l++r)=firstAt f (k+l.length) r
 |[],_,_,_=>rfl
 |x :: l,r,k,h=>by
  rw [List.cons_append,show firstAt f k (x :: (l++r))=if f x≠0 then (f x,(k:Int)) else firstAt f (k+1) (l++r) from rfl,if_neg (by rw [h x (by simp)];decide)]
  have:=firstAt_pre (l:=l) (r:=r) (k+1) fun y hy=>h y (by simp [hy])
  rw [this,List.length_cons,show k+1+l.length=k+(l.length+1) by omega]
theorem firstAt_hit {α:Type} {f:α→Int} {x:α} {r:List α} (k:Nat) (h:f x≠0):firstAt f k (x :: r)=(f x,(k:Int)):=by
 unfold firstAt
 rw [if_pos h]
end Go.Proofs.YtmignlclfbaifaaGreat
namespace Go.Proofs.YtmignlclfbaifaaGreat
def findP {α:Type} (q:α→Bool):List α→Int
 |[]=>-1
 |x :: l=>if q x then 0 else if findP q l<0 then -1 else findP q l+1
theorem findP_at {α:Type} {q:α→Bool}:∀{l:List α} {i:Nat} (hi:i<l.length),q l[i]=true→(∀(j:Nat) (hj:j<l.length),j<i→q l[j]=false)→findP q l=(i:Int)
 |x :: l,0,_,h,_=>by
  have h':q x=true:=h
  simp [findP,h']
 |x :: l,i+1,hi,h,h0=>by
  have hx:q x=false:=h0 0 (Nat.succ_pos _) (Nat.succ_pos _)
  have hr:=findP_at (l:=l) (i:=i) (by simpa using hi) h (fun j hj hji=>h0 (j+1) (by simpa using hj) (by omega))
  unfold findP
  rw [hx,hr,if_neg (by decide),if_neg (by omega)]
  omega
theorem findP_none {α:Type} {q:α→Bool}:∀{l:List α},(∀x∈l,q x=false)→findP q l=-1
 |[],_=>rfl
 |x :: l,h=>by
  have hx:=h x (by simp)
  have hr:=findP_none (l:=l) fun y hy=>h y (by simp [hy])
  unfold findP
  rw [hx,hr,if_neg (by decide),if_pos (by decide)]
def placeL (p:LProg) (s:ByteArray):Int:=findP (fun f:LFunc=>decide (f.name=s)) p.funcs
def arrayL (p:LProg) (s:ByteArray):Int:=findP (fun a:ByteArray × Int=>decide (a.1=s)) p.arrays
end Go.Proofs.YtmignlclfbaifaaGreat
