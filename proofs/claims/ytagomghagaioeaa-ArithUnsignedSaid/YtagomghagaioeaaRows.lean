/-
  No cell of these rows narrows 'for every input' (looked for: loops, veiled, ifaces, maps, wideKeys, modest, calm, conditions, laid).
  DERIVED. THE GIVEN ROWS OF THIS SEAT. 10 by the template 'for every input the law returns true; each argument reads behind the call as it read before'; 0 by the template 'total and deterministic' (their statements: YtagomghagaioeaaTotals.lean).
  GIVEN WITH THE SEED: the statements are not yours to turn. If you find one false, say at which input.
  Laid BY PROGRAM, IN A SANDBOX (cutbox-rows.mjs): the forced cells as the released guide's own fill.sh prints them over the translation 7c496d5840a7aadb… (all of the seat's roots in one cut). By AI agents, Wed Nov 11 2026. No macro, syntax, notation, axiom, sorry.
-/
import Derived.Test.YtagomghagaioeaaChecked
import GoSem.Claim
import GoSem.ClaimJoined
import GoSem.ClaimMapViews
import Derived.JoinedTies
import Derived.KernelRfl
namespace Go.Proofs.Ytagomghagaioeaa
/- THE CELL 'sum', in the pinned program and in every row, IS THE sha256 OF THE DUMP (.gsa) THAT YtagomghagaioeaaProg.lean LOADS. Nothing in Lean hashes anything: it is a label: what it is worth is what the hold of that sum in a sandbox is worth. -/
noncomputable def Try.pinned : Pinned := { name := "ytagomghagaioeaa", sum := "7c496d5840a7aadb3b61fc6ee1be75c48055f8393f2b4a0d3226978e57f3f7ee", checked := Try.checked }
namespace Rows
def none {H : Type} : Left H := { results := [], args := [] }

/-- 'counterprooflaw01.ArithTells': WHATEVER THE INPUT: true; the input reads as it did. -/
def arithTellsSpec : ChangeSpec := { name := "arithTells", fn := fun _ => fun
  | [d1, d2, d3] => { results := [.lit (.bool true)], args := [d1, d2, d3] }
  | _ => none }
def arithTellsRow : OpenClaim := { program := "ytagomghagaioeaa", sum := "7c496d5840a7aadb3b61fc6ee1be75c48055f8393f2b4a0d3226978e57f3f7ee", func := "counterproof/counterprooflaw01.ArithTells", spec := "arithTells", unfollowed := true, recurses := true, apart := false }
def ArithTellsSaid : Prop := arithTellsRow.holds Try.pinned (OpenSpec.ofChange arithTellsSpec)

/-- ITS FALSE NEIGHBOUR: 'it returns false'. Refute it at one input. -/
def arithTellsWrong : ChangeSpec := { name := "arithTells", fn := fun _ => fun
  | [d1, d2, d3] => { results := [.lit (.bool false)], args := [d1, d2, d3] }
  | _ => none }
def ArithTellsWrongFalsely : Prop := arithTellsRow.holds Try.pinned (OpenSpec.ofChange arithTellsWrong)

/-- 'counterprooflaw01.ArithDivides': WHATEVER THE INPUT: true; the input reads as it did. -/
def arithDividesSpec : ChangeSpec := { name := "arithDivides", fn := fun _ => fun
  | [d1, d2] => { results := [.lit (.bool true)], args := [d1, d2] }
  | _ => none }
def arithDividesRow : OpenClaim := { program := "ytagomghagaioeaa", sum := "7c496d5840a7aadb3b61fc6ee1be75c48055f8393f2b4a0d3226978e57f3f7ee", func := "counterproof/counterprooflaw01.ArithDivides", spec := "arithDivides", unfollowed := true, recurses := true, apart := false }
def ArithDividesSaid : Prop := arithDividesRow.holds Try.pinned (OpenSpec.ofChange arithDividesSpec)

/-- ITS FALSE NEIGHBOUR: 'it returns false'. Refute it at one input. -/
def arithDividesWrong : ChangeSpec := { name := "arithDivides", fn := fun _ => fun
  | [d1, d2] => { results := [.lit (.bool false)], args := [d1, d2] }
  | _ => none }
def ArithDividesWrongFalsely : Prop := arithDividesRow.holds Try.pinned (OpenSpec.ofChange arithDividesWrong)

/-- 'counterprooflaw01.ArithOrder': WHATEVER THE INPUT: true; the input reads as it did. -/
def arithOrderSpec : ChangeSpec := { name := "arithOrder", fn := fun _ => fun
  | [d1, d2] => { results := [.lit (.bool true)], args := [d1, d2] }
  | _ => none }
def arithOrderRow : OpenClaim := { program := "ytagomghagaioeaa", sum := "7c496d5840a7aadb3b61fc6ee1be75c48055f8393f2b4a0d3226978e57f3f7ee", func := "counterproof/counterprooflaw01.ArithOrder", spec := "arithOrder", unfollowed := true, recurses := true, apart := false }
def ArithOrderSaid : Prop := arithOrderRow.holds Try.pinned (OpenSpec.ofChange arithOrderSpec)

/-- ITS FALSE NEIGHBOUR: 'it returns false'. Refute it at one input. -/
def arithOrderWrong : ChangeSpec := { name := "arithOrder", fn := fun _ => fun
  | [d1, d2] => { results := [.lit (.bool false)], args := [d1, d2] }
  | _ => none }
def ArithOrderWrongFalsely : Prop := arithOrderRow.holds Try.pinned (OpenSpec.ofChange arithOrderWrong)

/-- 'counterprooflaw01.ArithBits': WHATEVER THE INPUT: true; the input reads as it did. -/
def arithBitsSpec : ChangeSpec := { name := "arithBits", fn := fun _ => fun
  | [d1, d2, d3] => { results := [.lit (.bool true)], args := [d1, d2, d3] }
  | _ => none }
def arithBitsRow : OpenClaim := { program := "ytagomghagaioeaa", sum := "7c496d5840a7aadb3b61fc6ee1be75c48055f8393f2b4a0d3226978e57f3f7ee", func := "counterproof/counterprooflaw01.ArithBits", spec := "arithBits", unfollowed := true, recurses := true, apart := false }
def ArithBitsSaid : Prop := arithBitsRow.holds Try.pinned (OpenSpec.ofChange arithBitsSpec)

/-- ITS FALSE NEIGHBOUR: 'it returns false'. Refute it at one input. -/
def arithBitsWrong : ChangeSpec := { name := "arithBits", fn := fun _ => fun
  | [d1, d2, d3] => { results := [.lit (.bool false)], args := [d1, d2, d3] }
  | _ => none }
def ArithBitsWrongFalsely : Prop := arithBitsRow.holds Try.pinned (OpenSpec.ofChange arithBitsWrong)

/-- 'counterprooflaw01.ArithSigns': WHATEVER THE INPUT: true; the input reads as it did. -/
def arithSignsSpec : ChangeSpec := { name := "arithSigns", fn := fun _ => fun
  | [d1, d2] => { results := [.lit (.bool true)], args := [d1, d2] }
  | _ => none }
def arithSignsRow : OpenClaim := { program := "ytagomghagaioeaa", sum := "7c496d5840a7aadb3b61fc6ee1be75c48055f8393f2b4a0d3226978e57f3f7ee", func := "counterproof/counterprooflaw01.ArithSigns", spec := "arithSigns", unfollowed := true, recurses := true, apart := false }
def ArithSignsSaid : Prop := arithSignsRow.holds Try.pinned (OpenSpec.ofChange arithSignsSpec)

/-- ITS FALSE NEIGHBOUR: 'it returns false'. Refute it at one input. -/
def arithSignsWrong : ChangeSpec := { name := "arithSigns", fn := fun _ => fun
  | [d1, d2] => { results := [.lit (.bool false)], args := [d1, d2] }
  | _ => none }
def ArithSignsWrongFalsely : Prop := arithSignsRow.holds Try.pinned (OpenSpec.ofChange arithSignsWrong)

/-- 'counterprooflaw01.ArithShifts': WHATEVER THE INPUT: true; the input reads as it did. -/
def arithShiftsSpec : ChangeSpec := { name := "arithShifts", fn := fun _ => fun
  | [d1, d2, d3] => { results := [.lit (.bool true)], args := [d1, d2, d3] }
  | _ => none }
def arithShiftsRow : OpenClaim := { program := "ytagomghagaioeaa", sum := "7c496d5840a7aadb3b61fc6ee1be75c48055f8393f2b4a0d3226978e57f3f7ee", func := "counterproof/counterprooflaw01.ArithShifts", spec := "arithShifts", unfollowed := true, recurses := true, apart := false }
def ArithShiftsSaid : Prop := arithShiftsRow.holds Try.pinned (OpenSpec.ofChange arithShiftsSpec)

/-- ITS FALSE NEIGHBOUR: 'it returns false'. Refute it at one input. -/
def arithShiftsWrong : ChangeSpec := { name := "arithShifts", fn := fun _ => fun
  | [d1, d2, d3] => { results := [.lit (.bool false)], args := [d1, d2, d3] }
  | _ => none }
def ArithShiftsWrongFalsely : Prop := arithShiftsRow.holds Try.pinned (OpenSpec.ofChange arithShiftsWrong)

/-- 'counterprooflaw01.ArithSums': WHATEVER THE INPUT: true; the input reads as it did. -/
def arithSumsSpec : ChangeSpec := { name := "arithSums", fn := fun _ => fun
  | [d1, d2, d3] => { results := [.lit (.bool true)], args := [d1, d2, d3] }
  | _ => none }
def arithSumsRow : OpenClaim := { program := "ytagomghagaioeaa", sum := "7c496d5840a7aadb3b61fc6ee1be75c48055f8393f2b4a0d3226978e57f3f7ee", func := "counterproof/counterprooflaw01.ArithSums", spec := "arithSums", unfollowed := true, recurses := true, apart := false }
def ArithSumsSaid : Prop := arithSumsRow.holds Try.pinned (OpenSpec.ofChange arithSumsSpec)

/-- ITS FALSE NEIGHBOUR: 'it returns false'. Refute it at one input. -/
def arithSumsWrong : ChangeSpec := { name := "arithSums", fn := fun _ => fun
  | [d1, d2, d3] => { results := [.lit (.bool false)], args := [d1, d2, d3] }
  | _ => none }
def ArithSumsWrongFalsely : Prop := arithSumsRow.holds Try.pinned (OpenSpec.ofChange arithSumsWrong)

/-- 'counterprooflaw01.ArithUnsigned': WHATEVER THE INPUT: true; the input reads as it did. -/
def arithUnsignedSpec : ChangeSpec := { name := "arithUnsigned", fn := fun _ => fun
  | [d1, d2] => { results := [.lit (.bool true)], args := [d1, d2] }
  | _ => none }
def arithUnsignedRow : OpenClaim := { program := "ytagomghagaioeaa", sum := "7c496d5840a7aadb3b61fc6ee1be75c48055f8393f2b4a0d3226978e57f3f7ee", func := "counterproof/counterprooflaw01.ArithUnsigned", spec := "arithUnsigned", unfollowed := true, recurses := true, apart := false }
def ArithUnsignedSaid : Prop := arithUnsignedRow.holds Try.pinned (OpenSpec.ofChange arithUnsignedSpec)

/-- ITS FALSE NEIGHBOUR: 'it returns false'. Refute it at one input. -/
def arithUnsignedWrong : ChangeSpec := { name := "arithUnsigned", fn := fun _ => fun
  | [d1, d2] => { results := [.lit (.bool false)], args := [d1, d2] }
  | _ => none }
def ArithUnsignedWrongFalsely : Prop := arithUnsignedRow.holds Try.pinned (OpenSpec.ofChange arithUnsignedWrong)

/-- 'counterprooflaw01.ArithTurns': WHATEVER THE INPUT: true; the input reads as it did. -/
def arithTurnsSpec : ChangeSpec := { name := "arithTurns", fn := fun _ => fun
  | [d] => { results := [.lit (.bool true)], args := [d] }
  | _ => none }
def arithTurnsRow : OpenClaim := { program := "ytagomghagaioeaa", sum := "7c496d5840a7aadb3b61fc6ee1be75c48055f8393f2b4a0d3226978e57f3f7ee", func := "counterproof/counterprooflaw01.ArithTurns", spec := "arithTurns", unfollowed := true, recurses := true, apart := false }
def ArithTurnsSaid : Prop := arithTurnsRow.holds Try.pinned (OpenSpec.ofChange arithTurnsSpec)

/-- ITS FALSE NEIGHBOUR: 'it returns false'. Refute it at one input. -/
def arithTurnsWrong : ChangeSpec := { name := "arithTurns", fn := fun _ => fun
  | [d] => { results := [.lit (.bool false)], args := [d] }
  | _ => none }
def ArithTurnsWrongFalsely : Prop := arithTurnsRow.holds Try.pinned (OpenSpec.ofChange arithTurnsWrong)

/-- 'counterprooflaw01.ArithNothing': WHATEVER THE INPUT: true; the input reads as it did. -/
def arithNothingSpec : ChangeSpec := { name := "arithNothing", fn := fun _ => fun
  | [d1, d2, d3] => { results := [.lit (.bool true)], args := [d1, d2, d3] }
  | _ => none }
def arithNothingRow : OpenClaim := { program := "ytagomghagaioeaa", sum := "7c496d5840a7aadb3b61fc6ee1be75c48055f8393f2b4a0d3226978e57f3f7ee", func := "counterproof/counterprooflaw01.ArithNothing", spec := "arithNothing", unfollowed := true, recurses := true, apart := false }
def ArithNothingSaid : Prop := arithNothingRow.holds Try.pinned (OpenSpec.ofChange arithNothingSpec)

/-- ITS FALSE NEIGHBOUR: 'it returns false'. Refute it at one input. -/
def arithNothingWrong : ChangeSpec := { name := "arithNothing", fn := fun _ => fun
  | [d1, d2, d3] => { results := [.lit (.bool false)], args := [d1, d2, d3] }
  | _ => none }
def ArithNothingWrongFalsely : Prop := arithNothingRow.holds Try.pinned (OpenSpec.ofChange arithNothingWrong)

/- THE SECOND FORM. 'bulk': how many values and letters a reading holds, each counted each time it is reached (what is shared counts as often as it is met; a slice's spare places count too). A statement '..UptoSaid' is the law's where the arguments, and the package variables that the reading takes, are together of bulk at most 1048576: NARROWER than '..Said'. Prove '..Said' where nothing that the law and all that it calls make is longer than what came in: it says more and counts as full. Else prove '..UptoSaid'. A law counts once. -/
mutual
def uptoBulk {H : Type} : DataW H → Nat
  | .lit (.string bytes) => bytes.length + 1
  | .lit _ => 1
  | .nil => 1
  | .ptr d => uptoBulk d + 1
  | .slice elems spare => uptoBulkAll elems + uptoBulkAll spare + 1
  | .agg parts => uptoBulkAll parts + 1
  | .iface _ d => uptoBulk d + 1
  | .map entries => uptoBulkEntries entries + 1
  | .held _ => 1
def uptoBulkAll {H : Type} : List (DataW H) → Nat
  | [] => 0
  | d :: r => uptoBulk d + uptoBulkAll r
def uptoBulkEntries {H : Type} : List (Lit × DataW H) → Nat
  | [] => 0
  | x :: r => uptoBulkEntry x + uptoBulkEntries r
def uptoBulkEntry {H : Type} : Lit × DataW H → Nat
  | (.string bytes, d) => bytes.length + uptoBulk d + 1
  | (_, d) => uptoBulk d + 1
 end
def uptoSmall : (H : Type) → List (DataW H) → Bool := fun _ ds => decide (uptoBulkAll ds ≤ 1048576)
def OpenSpec.upto (s : _root_.Go.ChangeSpec) : _root_.Go.OpenSpec := { _root_.Go.OpenSpec.ofChange s with cond := some uptoSmall }

/-- 'counterprooflaw01.ArithTells', WHERE WHAT IT READS IS OF BULK AT MOST 1048576: true; the input reads as it did. -/
def arithTellsUptoRow : OpenClaim := { program := "ytagomghagaioeaa", sum := "7c496d5840a7aadb3b61fc6ee1be75c48055f8393f2b4a0d3226978e57f3f7ee", func := "counterproof/counterprooflaw01.ArithTells", spec := "arithTells", unfollowed := true, recurses := true, apart := false, narrowed := true }
def ArithTellsUptoSaid : Prop := arithTellsUptoRow.holds Try.pinned (OpenSpec.upto arithTellsSpec)

/-- 'counterprooflaw01.ArithDivides', WHERE WHAT IT READS IS OF BULK AT MOST 1048576: true; the input reads as it did. -/
def arithDividesUptoRow : OpenClaim := { program := "ytagomghagaioeaa", sum := "7c496d5840a7aadb3b61fc6ee1be75c48055f8393f2b4a0d3226978e57f3f7ee", func := "counterproof/counterprooflaw01.ArithDivides", spec := "arithDivides", unfollowed := true, recurses := true, apart := false, narrowed := true }
def ArithDividesUptoSaid : Prop := arithDividesUptoRow.holds Try.pinned (OpenSpec.upto arithDividesSpec)

/-- 'counterprooflaw01.ArithOrder', WHERE WHAT IT READS IS OF BULK AT MOST 1048576: true; the input reads as it did. -/
def arithOrderUptoRow : OpenClaim := { program := "ytagomghagaioeaa", sum := "7c496d5840a7aadb3b61fc6ee1be75c48055f8393f2b4a0d3226978e57f3f7ee", func := "counterproof/counterprooflaw01.ArithOrder", spec := "arithOrder", unfollowed := true, recurses := true, apart := false, narrowed := true }
def ArithOrderUptoSaid : Prop := arithOrderUptoRow.holds Try.pinned (OpenSpec.upto arithOrderSpec)

/-- 'counterprooflaw01.ArithBits', WHERE WHAT IT READS IS OF BULK AT MOST 1048576: true; the input reads as it did. -/
def arithBitsUptoRow : OpenClaim := { program := "ytagomghagaioeaa", sum := "7c496d5840a7aadb3b61fc6ee1be75c48055f8393f2b4a0d3226978e57f3f7ee", func := "counterproof/counterprooflaw01.ArithBits", spec := "arithBits", unfollowed := true, recurses := true, apart := false, narrowed := true }
def ArithBitsUptoSaid : Prop := arithBitsUptoRow.holds Try.pinned (OpenSpec.upto arithBitsSpec)

/-- 'counterprooflaw01.ArithSigns', WHERE WHAT IT READS IS OF BULK AT MOST 1048576: true; the input reads as it did. -/
def arithSignsUptoRow : OpenClaim := { program := "ytagomghagaioeaa", sum := "7c496d5840a7aadb3b61fc6ee1be75c48055f8393f2b4a0d3226978e57f3f7ee", func := "counterproof/counterprooflaw01.ArithSigns", spec := "arithSigns", unfollowed := true, recurses := true, apart := false, narrowed := true }
def ArithSignsUptoSaid : Prop := arithSignsUptoRow.holds Try.pinned (OpenSpec.upto arithSignsSpec)

/-- 'counterprooflaw01.ArithShifts', WHERE WHAT IT READS IS OF BULK AT MOST 1048576: true; the input reads as it did. -/
def arithShiftsUptoRow : OpenClaim := { program := "ytagomghagaioeaa", sum := "7c496d5840a7aadb3b61fc6ee1be75c48055f8393f2b4a0d3226978e57f3f7ee", func := "counterproof/counterprooflaw01.ArithShifts", spec := "arithShifts", unfollowed := true, recurses := true, apart := false, narrowed := true }
def ArithShiftsUptoSaid : Prop := arithShiftsUptoRow.holds Try.pinned (OpenSpec.upto arithShiftsSpec)

/-- 'counterprooflaw01.ArithSums', WHERE WHAT IT READS IS OF BULK AT MOST 1048576: true; the input reads as it did. -/
def arithSumsUptoRow : OpenClaim := { program := "ytagomghagaioeaa", sum := "7c496d5840a7aadb3b61fc6ee1be75c48055f8393f2b4a0d3226978e57f3f7ee", func := "counterproof/counterprooflaw01.ArithSums", spec := "arithSums", unfollowed := true, recurses := true, apart := false, narrowed := true }
def ArithSumsUptoSaid : Prop := arithSumsUptoRow.holds Try.pinned (OpenSpec.upto arithSumsSpec)

/-- 'counterprooflaw01.ArithUnsigned', WHERE WHAT IT READS IS OF BULK AT MOST 1048576: true; the input reads as it did. -/
def arithUnsignedUptoRow : OpenClaim := { program := "ytagomghagaioeaa", sum := "7c496d5840a7aadb3b61fc6ee1be75c48055f8393f2b4a0d3226978e57f3f7ee", func := "counterproof/counterprooflaw01.ArithUnsigned", spec := "arithUnsigned", unfollowed := true, recurses := true, apart := false, narrowed := true }
def ArithUnsignedUptoSaid : Prop := arithUnsignedUptoRow.holds Try.pinned (OpenSpec.upto arithUnsignedSpec)

/-- 'counterprooflaw01.ArithTurns', WHERE WHAT IT READS IS OF BULK AT MOST 1048576: true; the input reads as it did. -/
def arithTurnsUptoRow : OpenClaim := { program := "ytagomghagaioeaa", sum := "7c496d5840a7aadb3b61fc6ee1be75c48055f8393f2b4a0d3226978e57f3f7ee", func := "counterproof/counterprooflaw01.ArithTurns", spec := "arithTurns", unfollowed := true, recurses := true, apart := false, narrowed := true }
def ArithTurnsUptoSaid : Prop := arithTurnsUptoRow.holds Try.pinned (OpenSpec.upto arithTurnsSpec)

/-- 'counterprooflaw01.ArithNothing', WHERE WHAT IT READS IS OF BULK AT MOST 1048576: true; the input reads as it did. -/
def arithNothingUptoRow : OpenClaim := { program := "ytagomghagaioeaa", sum := "7c496d5840a7aadb3b61fc6ee1be75c48055f8393f2b4a0d3226978e57f3f7ee", func := "counterproof/counterprooflaw01.ArithNothing", spec := "arithNothing", unfollowed := true, recurses := true, apart := false, narrowed := true }
def ArithNothingUptoSaid : Prop := arithNothingUptoRow.holds Try.pinned (OpenSpec.upto arithNothingSpec)

end Rows
end Go.Proofs.Ytagomghagaioeaa
