/- Trees of chapter 3 (expressions, statements, functions, programs) as plain data, and how they lie in memory. No walk in sight. -/
import Derived.Test.YtmignlclfbaifaaGreatMem
namespace Go.Proofs.YtmignlclfbaifaaGreat
open Go.RowKit

/-! ### plain -/
inductive LExpr where
  | mk (kind op n : Int) (name : ByteArray) (args : List LExpr)
namespace LExpr
def kind : LExpr → Int | mk k _ _ _ _ => k
def op : LExpr → Int | mk _ o _ _ _ => o
def n : LExpr → Int | mk _ _ n _ _ => n
def name : LExpr → ByteArray | mk _ _ _ s _ => s
def args : LExpr → List LExpr | mk _ _ _ _ l => l
end LExpr
inductive LStmt where
  | mk (kind : Int) (name : ByteArray) (args : List LExpr) (thn els : List LStmt)
namespace LStmt
def kind : LStmt → Int | mk k _ _ _ _ => k
def name : LStmt → ByteArray | mk _ s _ _ _ => s
def args : LStmt → List LExpr | mk _ _ l _ _ => l
def thn : LStmt → List LStmt | mk _ _ _ t _ => t
def els : LStmt → List LStmt | mk _ _ _ _ e => e
end LStmt
structure LFunc where
  name : ByteArray
  params : List ByteArray
  locals : List ByteArray
  body : List LStmt
structure LProg where
  arrays : List (ByteArray × Int)
  funcs : List LFunc

/-! ### in memory; d: how deep at most -/
def exprCells (e : LExpr) (va : Value) : List Value := [.int .i64 e.kind, .int .i64 e.op, .int .i64 e.n, .string e.name, va]
def stmtCells (s : LStmt) (va vt ve : Value) : List Value := [.int .i64 s.kind, .string s.name, va, vt, ve]
def RExpr : Nat → World → (Nat → Prop) → List Value → LExpr → Prop
  | 0, _, _, _, _ => False
  | d + 1, w, ok, cs, e => ∃ va, cs = exprCells e va ∧ SlR w ok 5 (RExpr d w ok) va e.args
def RStmt : Nat → World → (Nat → Prop) → List Value → LStmt → Prop
  | 0, _, _, _, _ => False
  | d + 1, w, ok, cs, s => ∃ va vt ve, cs = stmtCells s va vt ve ∧ SlR w ok 5 (RExpr (d + 1) w ok) va s.args ∧ SlR w ok 5 (RStmt d w ok) vt s.thn ∧ SlR w ok 5 (RStmt d w ok) ve s.els
def RFunc (d : Nat) (w : World) (ok : Nat → Prop) (cs : List Value) (f : LFunc) : Prop :=
  ∃ vp vl vb, cs = [.string f.name, vp, vl, vb] ∧ SlR w ok 1 RStr vp f.params ∧ SlR w ok 1 RStr vl f.locals ∧ SlR w ok 5 (RStmt d w ok) vb f.body

section
variable {w w' : World} {ok ok' : Nat → Prop}
theorem RExpr.imp (hok : ∀ b, ok b → ok' b) (hk : Keeps ok w w') : ∀ (d : Nat) {cs : List Value} {e : LExpr}, RExpr d w ok cs e → RExpr d w' ok' cs e
  | 0, _, _, h => h.elim
  | d + 1, _, _, ⟨va, e, h⟩ => ⟨va, e, h.imp hok hk fun _ _ _ r => RExpr.imp hok hk d r⟩
theorem RStmt.imp (hok : ∀ b, ok b → ok' b) (hk : Keeps ok w w') : ∀ (d : Nat) {cs : List Value} {s : LStmt}, RStmt d w ok cs s → RStmt d w' ok' cs s
  | 0, _, _, h => h.elim
  | d + 1, _, _, ⟨va, vt, ve, e, h1, h2, h3⟩ => ⟨va, vt, ve, e, h1.imp hok hk fun _ _ _ r => r.imp hok hk, h2.imp hok hk fun _ _ _ r => RStmt.imp hok hk d r, h3.imp hok hk fun _ _ _ r => RStmt.imp hok hk d r⟩
theorem RFunc.imp {d : Nat} {cs : List Value} {f : LFunc} (h : RFunc d w ok cs f) (hok : ∀ b, ok b → ok' b) (hk : Keeps ok w w') : RFunc d w' ok' cs f := by
  obtain ⟨vp, vl, vb, e, h1, h2, h3⟩ := h
  exact ⟨vp, vl, vb, e, h1.imp hok hk fun _ _ _ r => r, h2.imp hok hk fun _ _ _ r => r, h3.imp hok hk fun _ _ _ r => RStmt.imp hok hk d r⟩
theorem RExpr.up : ∀ (d : Nat) {d' : Nat}, d ≤ d' → ∀ {cs : List Value} {e : LExpr}, RExpr d w ok cs e → RExpr d' w ok cs e
  | 0, _, _, _, _, h => h.elim
  | d + 1, 0, hd, _, _, _ => absurd hd (Nat.not_succ_le_zero d)
  | d + 1, d' + 1, hd, _, _, ⟨va, e, h⟩ => ⟨va, e, h.imp (fun _ h => h) (Keeps.refl _ _) fun _ _ _ r => RExpr.up d (by omega) r⟩
theorem RStmt.up : ∀ (d : Nat) {d' : Nat}, d ≤ d' → ∀ {cs : List Value} {s : LStmt}, RStmt d w ok cs s → RStmt d' w ok cs s
  | 0, _, _, _, _, h => h.elim
  | d + 1, 0, hd, _, _, _ => absurd hd (Nat.not_succ_le_zero d)
  | d + 1, d' + 1, hd, _, _, ⟨va, vt, ve, e, h1, h2, h3⟩ => ⟨va, vt, ve, e, h1.imp (fun _ h => h) (Keeps.refl _ _) fun _ _ _ r => RExpr.up _ (by omega) r, h2.imp (fun _ h => h) (Keeps.refl _ _) fun _ _ _ r => RStmt.up d (by omega) r, h3.imp (fun _ h => h) (Keeps.refl _ _) fun _ _ _ r => RStmt.up d (by omega) r⟩
end

end Go.Proofs.YtmignlclfbaifaaGreat
