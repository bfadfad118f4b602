/- What tree.Right and check.Check tell of programs, in plain words, and what holds of programs that are made of what there is. No walk in sight. -/
import Derived.Test.YtmignlclfbaifaaGreatTrMem
namespace Go.Proofs.YtmignlclfbaifaaGreat

/-! ### names -/
def hasS (l : List ByteArray) (s : ByteArray) : Bool := l.any fun x => decide (x = s)
theorem hasS_iff {l : List ByteArray} {s : ByteArray} : hasS l s = true ↔ s ∈ l := by
  unfold hasS
  rw [List.any_eq_true]
  exact ⟨fun ⟨x, hx, e⟩ => of_decide_eq_true e ▸ hx, fun h => ⟨s, h, decide_eq_true rfl⟩⟩
def letterB (c : UInt8) : Bool := c = 95 || (97 ≤ c && c ≤ 122) || (65 ≤ c && c ≤ 90)
def digitB (c : UInt8) : Bool := 48 ≤ c && c ≤ 57
def strOf (l : List UInt8) : ByteArray := ⟨l.toArray⟩
/-- the words that are no names: int if else while break continue return print read trap -/
def wordsB : List ByteArray := [strOf [105, 110, 116], strOf [105, 102], strOf [101, 108, 115, 101], strOf [119, 104, 105, 108, 101], strOf [98, 114, 101, 97, 107], strOf [99, 111, 110, 116, 105, 110, 117, 101], strOf [114, 101, 116, 117, 114, 110], strOf [112, 114, 105, 110, 116], strOf [114, 101, 97, 100], strOf [116, 114, 97, 112]]
def charsB : List UInt8 → Bool
  | [] => false
  | c :: r => letterB c && r.all fun c => letterB c || digitB c
def nameB (s : ByteArray) : Bool := decide (s.size ≤ 20) && !hasS wordsB s && charsB s.data.toList

/-! ### may it be (tree.Right) -/
/-- is it at most so deep -/
def deepE : Nat → LExpr → Bool
  | 0, _ => false
  | m + 1, e => e.args.all (deepE m)
/-- an expression, but for its parts -/
def bareE (e : LExpr) : Bool :=
  if e.kind = 1 then decide (0 ≤ e.n) && decide (e.op = 0) && decide (e.name = ⟨#[]⟩) && decide (e.args.length = 0)
  else if e.kind = 2 then nameB e.name && decide (e.op = 0) && decide (e.n = 0) && decide (e.args.length = 0)
  else if e.kind = 3 then decide (e.op = 17 ∨ e.op = 18 ∨ e.op = 19) && decide (e.n = 0) && decide (e.name = ⟨#[]⟩) && decide (e.args.length = 1)
  else if e.kind = 4 then decide (1 ≤ e.op ∧ e.op ≤ 16) && decide (e.n = 0) && decide (e.name = ⟨#[]⟩) && decide (e.args.length = 2)
  else if e.kind = 5 then nameB e.name && decide (e.op = 0) && decide (e.n = 0) && decide (e.args.length ≤ 6)
  else if e.kind = 6 then nameB e.name && decide (e.op = 0) && decide (e.n = 0) && decide (e.args.length = 1)
  else if e.kind = 7 then decide (e.op = 0) && decide (e.n = 0) && decide (e.name = ⟨#[]⟩) && decide (e.args.length = 0)
  else false
def wellE : Nat → LExpr → Bool
  | 0, _ => false
  | d + 1, e => bareE e && e.args.all (wellE d)
/-- a statement, but for its parts -/
def bareS (s : LStmt) : Bool :=
  if s.kind = 1 ∨ s.kind = 2 then nameB s.name && decide ((s.args.length : Int) = s.kind) && decide (s.thn.length = 0) && decide (s.els.length = 0)
  else if s.kind = 3 then decide (s.name = ⟨#[]⟩) && decide (s.args.length = 1)
  else if s.kind = 4 then decide (s.name = ⟨#[]⟩) && decide (s.args.length = 1) && decide (s.els.length = 0)
  else if s.kind = 5 ∨ s.kind = 6 then decide (s.name = ⟨#[]⟩) && decide (s.args.length = 0) && decide (s.thn.length = 0) && decide (s.els.length = 0)
  else if s.kind = 7 ∨ s.kind = 8 ∨ s.kind = 9 then decide (s.name = ⟨#[]⟩) && decide (s.args.length = 1) && decide (s.thn.length = 0) && decide (s.els.length = 0)
  else if s.kind = 10 then decide (s.name = ⟨#[]⟩) && decide (s.args.length = 1) && decide (s.thn.length = 0) && decide (s.els.length = 0) && s.args.all fun e => decide (e.kind = 5)
  else false
/-- a statement at most so deep; D: how deep the expressions of a row may be at most -/
def stmtB (D : Nat) : Nat → LStmt → Bool
  | 0, _ => false
  | m + 1, s => bareS s && s.args.all (fun e => deepE 40 e && wellE D e) && s.thn.all (stmtB D m) && s.els.all (stmtB D m)
def funcB (D : Nat) (f : LFunc) : Bool := nameB f.name && f.params.all nameB && f.locals.all nameB && decide (f.params.length ≤ 6) && f.body.all (stmtB D 40)
def rightB (D : Nat) (p : LProg) : Bool := p.arrays.all (fun a => nameB a.1 && decide (1 ≤ a.2 ∧ a.2 ≤ 1048576)) && p.funcs.all (funcB D)

/-! ### what is wrong first (check.Check) -/
def findN {α : Type} (p : α → Bool) : List α → Option Nat
  | [] => none
  | a :: r => if p a then some 0 else (findN p r).map (· + 1)
def firstE {α : Type} (f : α → Int) : List α → Int
  | [] => 0
  | x :: l => if f x ≠ 0 then f x else firstE f l
/-- an expression, but for its parts, among variables -/
def ownE (p : LProg) (vars : List ByteArray) (e : LExpr) : Int :=
  if e.kind = 2 then if hasS vars e.name then 0 else 51
  else if e.kind = 6 then if p.arrays.any (fun a => decide (a.1 = e.name)) then 0 else 51
  else if e.kind = 5 then match p.funcs.find? (fun f => decide (f.name = e.name)) with
    | none => 51
    | some f => if f.params.length = e.args.length then 0 else 52
  else 0
def exprsE (p : LProg) (vars : List ByteArray) : Nat → List LExpr → Int
  | 0 => fun _ => 0
  | d + 1 => firstE fun e => if ownE p vars e ≠ 0 then ownE p vars e else exprsE p vars d e.args
def stmtE (p : LProg) (vars : List ByteArray) (D : Nat) (s : LStmt) (loop : Bool) : Int :=
  let e := if s.kind = 5 ∨ s.kind = 6 then (if loop then 0 else 53) else if s.kind = 1 then (if hasS vars s.name then 0 else 51) else if s.kind = 2 then (if p.arrays.any (fun a => decide (a.1 = s.name)) then 0 else 51) else 0
  if e ≠ 0 then e else exprsE p vars D s.args
/-- statements, and those in them, each with whether it is in a loop -/
def allL : Nat → List LStmt → Bool → List (LStmt × Bool)
  | 0, _, _ => []
  | d + 1, l, loop => l.flatMap fun s => (s, loop) :: (allL d s.thn (loop || decide (s.kind = 4)) ++ allL d s.els loop)
def globalsL (p : LProg) : List ByteArray := p.arrays.map (·.1) ++ p.funcs.map (·.name)
def twiceB (l : List ByteArray) : Bool := !decide l.Nodup
/-- the first that is wrong, and its place -/
def firstAt {α : Type} (f : α → Int) : Nat → List α → Int × Int
  | _, [] => (0, 0)
  | k, x :: l => if f x ≠ 0 then (f x, k) else firstAt f (k + 1) l
def functionE (D : Nat) (p : LProg) (f : LFunc) : Int × Int :=
  if twiceB (f.params ++ f.locals) || (f.params ++ f.locals).any (fun s => hasS (globalsL p) s) then (50, 0)
  else firstAt (fun x => stmtE p (f.params ++ f.locals) D x.1 x.2) 0 (allL D f.body false)
def funcsE (D : Nat) (p : LProg) : Nat → List LFunc → Int × Int × Int
  | _, [] => (0, 0, 0)
  | k, f :: l => if (functionE D p f).1 ≠ 0 then ((functionE D p f).1, k, (functionE D p f).2) else funcsE D p (k + 1) l
def checkE (D : Nat) (p : LProg) : Int × Int × Int :=
  if !rightB D p then (1, 0, 0)
  else if twiceB (globalsL p) then (50, 0, 0)
  else match p.funcs.find? (fun f => decide (f.name = strOf [109, 97, 105, 110])) with
    | none => (54, 0, 0)
    | some f => if 0 < f.params.length then (54, 0, 0) else funcsE D p 0 p.funcs
end Go.Proofs.YtmignlclfbaifaaGreat
