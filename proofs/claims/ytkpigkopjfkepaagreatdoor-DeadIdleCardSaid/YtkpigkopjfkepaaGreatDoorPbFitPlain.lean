/- What the statements make of raw data (Fit of chapter 10's statements), as plain functions. -/
import Derived.Test.YtkpigkopjfkepaaGreatDoorPbMem
namespace Go.Proofs.YtkpigkopjfkepaaGreatDoor
open Go.RowKit

/-- of a raw number: which of n things -/
def pk (a n : Int) : Int := (if a < 0 then -(a + 1) else a) % n
theorem pk_lo (a n : Int) (hn : 0 < n) : 0 ≤ pk a n := Int.emod_nonneg _ (by omega)
theorem pk_hi (a n : Int) (hn : 0 < n) : pk a n < n := Int.emod_lt_of_pos _ hn
/-- a number of 64 bits -/
def I64 (a : Int) : Prop := -9223372036854775808 ≤ a ∧ a ≤ 9223372036854775807
theorem I64.lo {a : Int} (h : I64 a) : -9223372036854775808 ≤ a := h.1
theorem I64.hi {a : Int} (h : I64 a) : a ≤ 9223372036854775807 := h.2
theorem i64_of_wf {a : Int} (h : (Lit.int .i64 a).wf = true) : I64 a := by
  simp [Lit.wf, IntKind.min, IntKind.max, IntKind.signed, IntKind.bits] at h
  unfold I64; omega
theorem wrap_in (a : Int) : I64 (wrap64 a) := by unfold I64 wrap64; omega

structure LIns.I (x : LIns) : Prop where
  kind : I64 x.kind
  d : I64 x.d
  a : I64 x.a
  b : I64 x.b
  op : I64 x.op
  n : I64 x.n
structure LTerm.I (t : LTerm) : Prop where
  kind : I64 t.kind
  a : I64 t.a
  to : I64 t.to
  els : I64 t.els
structure LBlock.I (b : LBlock) : Prop where
  ins : ∀ x ∈ b.ins, x.I
  term : b.term.I

def sMain : ByteArray := ⟨#[109, 97, 105, 110]⟩
def sF : ByteArray := ⟨#[102]⟩
def sG : ByteArray := ⟨#[103]⟩
def sA : ByteArray := ⟨#[97]⟩
def sB : ByteArray := ⟨#[98]⟩
def sNone : ByteArray := ⟨#[]⟩
def fnName (k : Int) : ByteArray := if k = 0 then sMain else if k = 1 then sF else sG
def arrName (k : Int) : ByteArray := if k = 0 then sA else sB
def fitArg (x : LIns) (i : Nat) : Int := pk (wrap64 (x.a + wrap64 (i * x.b))) 10
/-- of a raw instruction: one that may be -/
def fitIns (x : LIns) : LIns :=
  let k := 1 + pk x.kind 9
  { kind := k
    d := if k = 6 ∨ k = 8 then 0 else pk x.d 10
    a := if k = 1 ∨ k = 7 ∨ k = 9 then 0 else pk x.a 10
    b := if k = 4 ∨ k = 6 then pk x.b 10 else 0
    op := if k = 3 then 17 + pk x.op 3 else if k = 4 then 1 + pk x.op 16 else 0
    n := if k = 1 then x.n else 0
    name := if k = 5 ∨ k = 6 then arrName (pk x.n 2) else if k = 9 then fnName (pk x.n 3) else sNone
    args := if k = 9 then (List.range (pk x.n 3).toNat).map (fitArg x) else [] }
/-- of a raw end: one that may be, in a function of n blocks -/
def fitTerm (t : LTerm) (n : Int) : LTerm :=
  let k := 1 + pk t.kind 4
  { kind := k
    a := if k = 1 then 0 else pk t.a 10
    to := if k ≤ 2 then pk t.to n else 0
    els := if k = 2 then pk t.els n else 0 }
def fitBlock (b : LBlock) (n : Int) : LBlock := { ins := (b.ins.take 6).map fitIns, term := fitTerm b.term n }
def noBlock : LBlock := { ins := [], term := ⟨0, 0, 0, 0⟩ }
end Go.Proofs.YtkpigkopjfkepaaGreatDoor
