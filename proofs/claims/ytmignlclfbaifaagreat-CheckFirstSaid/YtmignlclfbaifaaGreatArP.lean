/- Plain arithmetic of layer 1: what an operator makes of two numbers or of one, in the walk's own spelling. No program in sight. -/
import Derived.WalkKit
namespace Go.Proofs.YtmignlclfbaifaaGreat.Ar
open Go.RowKit

def bit (p : Bool) : Int := if p then 1 else 0
/-- the number of bits of a shift -/
def shn (b : Int) : Int := bits .and .i64 b 63
def divq (a b : Int) : Int := if b = 0 then -1 else wrap64 (a.tdiv b)
def remr (a b : Int) : Int := if b = 0 then a else a.tmod b
/-- what an operator makes of two numbers; 0 if there is nothing -/
def two (op a b : Int) : Int :=
  if op = 1 then wrap64 (a + b) else if op = 2 then wrap64 (a - b) else if op = 3 then wrap64 (a * b)
  else if op = 4 then (if b = 0 then 0 else divq a b) else if op = 5 then (if b = 0 then 0 else remr a b)
  else if op = 6 then bits .and .i64 a b else if op = 7 then bits .or .i64 a b else if op = 8 then bits .xor .i64 a b
  else if op = 9 then wrap64 (a * 2 ^ (shn b).toNat) else if op = 10 then a / 2 ^ (shn b).toNat
  else if op = 11 then bit (a < b) else if op = 12 then bit (a ≤ b) else if op = 13 then bit (b < a) else if op = 14 then bit (b ≤ a)
  else if op = 15 then bit (a == b) else if op = 16 then bit (a != b) else 0
/-- is there something? -/
def twoOk (op b : Int) : Bool := decide (1 ≤ op ∧ op ≤ 16) && !((op == 4 || op == 5) && b == 0)
def one (op a : Int) : Int := if op = 17 then wrap64 (-a) else if op = 18 then bit (a == 0) else if op = 19 then bits .xor .i64 (-1) a else 0
def oneOk (op : Int) : Bool := decide (17 ≤ op ∧ op ≤ 19)
def lvl (op : Int) : Int :=
  if op < 1 ∨ 16 < op then 0 else if op ≤ 2 then 7 else if op ≤ 5 then 8 else if op = 6 then 3 else if op = 7 then 1 else if op = 8 then 2
  else if op ≤ 10 then 6 else if op ≤ 14 then 5 else 4
def sgn (op : Int) : ByteArray :=
  if op = 1 then ⟨#[43]⟩ else if op = 2 then ⟨#[45]⟩ else if op = 3 then ⟨#[42]⟩ else if op = 4 then ⟨#[47]⟩ else if op = 5 then ⟨#[37]⟩
  else if op = 6 then ⟨#[38]⟩ else if op = 7 then ⟨#[124]⟩ else if op = 8 then ⟨#[94]⟩ else if op = 9 then ⟨#[60, 60]⟩ else if op = 10 then ⟨#[62, 62]⟩
  else if op = 11 then ⟨#[60]⟩ else if op = 12 then ⟨#[60, 61]⟩ else if op = 13 then ⟨#[62]⟩ else if op = 14 then ⟨#[62, 61]⟩ else if op = 15 then ⟨#[61, 61]⟩
  else if op = 16 then ⟨#[33, 61]⟩ else if op = 17 then ⟨#[45]⟩ else if op = 18 then ⟨#[33]⟩ else if op = 19 then ⟨#[126]⟩ else ⟨#[]⟩
end Go.Proofs.YtmignlclfbaifaaGreat.Ar
