/-
  No cell of these rows narrows 'for every input' (looked for: loops, veiled, ifaces, maps, wideKeys, modest, calm, conditions, laid).
  DERIVED. THE GIVEN ROWS OF THIS SEAT. 3 by the template 'for every input the law returns true; each argument reads behind the call as it read before'; 0 by the template 'total and deterministic' (their statements: YtknccacfhknnaaaGreatTotals.lean).
  GIVEN WITH THE SEED: the statements are not yours to turn. If you find one false, say at which input.
  Laid BY PROGRAM, IN A SANDBOX (cutbox-rows.mjs): the forced cells as the released guide's own fill.sh prints them over the translation b02deca3991a1761… (all of the seat's roots in one cut). By AI agents, Wed Nov 11 2026. No macro, syntax, notation, axiom, sorry.
-/
import Derived.Test.YtknccacfhknnaaaGreatChecked
import GoSem.Claim
import GoSem.ClaimJoined
import GoSem.ClaimMapViews
import Derived.JoinedTies
import Derived.KernelRfl
namespace Go.Proofs.YtknccacfhknnaaaGreat
/- THE CELL 'sum', in the pinned program and in every row, IS THE sha256 OF THE DUMP (.gsa) THAT YtknccacfhknnaaaGreatProg.lean LOADS. Nothing in Lean hashes anything: it is a label: what it is worth is what the hold of that sum in a sandbox is worth. -/
noncomputable def Tryz.pinned : Pinned := { name := "ytknccacfhknnaaagreat", sum := "b02deca3991a17618c4443e090ac28793adad11bf90a7723578e30d4e17f17ac", checked := Tryz.checked }
namespace Rows
def none {H : Type} : Left H := { results := [], args := [] }

/-- 'counterprooflaw11.IrrunTurned': WHATEVER THE INPUT: true; the input reads as it did. -/
def irrunTurnedSpec : ChangeSpec := { name := "irrunTurned", fn := fun _ => fun
  | [d1, d2, d3, d4, d5] => { results := [.lit (.bool true)], args := [d1, d2, d3, d4, d5] }
  | _ => none }
def irrunTurnedRow : OpenClaim := { program := "ytknccacfhknnaaagreat", sum := "b02deca3991a17618c4443e090ac28793adad11bf90a7723578e30d4e17f17ac", func := "counterproof/counterprooflaw11.IrrunTurned", spec := "irrunTurned", unfollowed := true, recurses := true, apart := false }
def IrrunTurnedSaid : Prop := irrunTurnedRow.holds Tryz.pinned (OpenSpec.ofChange irrunTurnedSpec)

/-- ITS FALSE NEIGHBOUR: 'it returns false'. Refute it at one input. -/
def irrunTurnedWrong : ChangeSpec := { name := "irrunTurned", fn := fun _ => fun
  | [d1, d2, d3, d4, d5] => { results := [.lit (.bool false)], args := [d1, d2, d3, d4, d5] }
  | _ => none }
def IrrunTurnedWrongFalsely : Prop := irrunTurnedRow.holds Tryz.pinned (OpenSpec.ofChange irrunTurnedWrong)

/-- 'counterprooflaw13.FlowAnything': WHATEVER THE INPUT: true; the input reads as it did. -/
def flowAnythingSpec : ChangeSpec := { name := "flowAnything", fn := fun _ => fun
  | [d1, d2, d3, d4, d5, d6] => { results := [.lit (.bool true)], args := [d1, d2, d3, d4, d5, d6] }
  | _ => none }
def flowAnythingRow : OpenClaim := { program := "ytknccacfhknnaaagreat", sum := "b02deca3991a17618c4443e090ac28793adad11bf90a7723578e30d4e17f17ac", func := "counterproof/counterprooflaw13.FlowAnything", spec := "flowAnything", unfollowed := true, recurses := true, apart := false }
def FlowAnythingSaid : Prop := flowAnythingRow.holds Tryz.pinned (OpenSpec.ofChange flowAnythingSpec)

/-- ITS FALSE NEIGHBOUR: 'it returns false'. Refute it at one input. -/
def flowAnythingWrong : ChangeSpec := { name := "flowAnything", fn := fun _ => fun
  | [d1, d2, d3, d4, d5, d6] => { results := [.lit (.bool false)], args := [d1, d2, d3, d4, d5, d6] }
  | _ => none }
def FlowAnythingWrongFalsely : Prop := flowAnythingRow.holds Tryz.pinned (OpenSpec.ofChange flowAnythingWrong)

/-- 'counterprooflaw13.FlowReach': WHATEVER THE INPUT: true; the input reads as it did. -/
def flowReachSpec : ChangeSpec := { name := "flowReach", fn := fun _ => fun
  | [d1, d2, d3, d4] => { results := [.lit (.bool true)], args := [d1, d2, d3, d4] }
  | _ => none }
def flowReachRow : OpenClaim := { program := "ytknccacfhknnaaagreat", sum := "b02deca3991a17618c4443e090ac28793adad11bf90a7723578e30d4e17f17ac", func := "counterproof/counterprooflaw13.FlowReach", spec := "flowReach", unfollowed := true, recurses := true, apart := false }
def FlowReachSaid : Prop := flowReachRow.holds Tryz.pinned (OpenSpec.ofChange flowReachSpec)

/-- ITS FALSE NEIGHBOUR: 'it returns false'. Refute it at one input. -/
def flowReachWrong : ChangeSpec := { name := "flowReach", fn := fun _ => fun
  | [d1, d2, d3, d4] => { results := [.lit (.bool false)], args := [d1, d2, d3, d4] }
  | _ => none }
def FlowReachWrongFalsely : Prop := flowReachRow.holds Tryz.pinned (OpenSpec.ofChange flowReachWrong)

/- THE SECOND FORM. 'bulk': how many values and letters a reading holds, each counted each time it is reached (what is shared counts as often as it is met; a slice's spare places count too). A statement '..UptoSaid' is the law's where the arguments, and the package variables that the reading takes, are together of bulk at most 1048576: NARROWER than '..Said'. Prove '..Said' where nothing that the law and all that it calls make is longer than what came in: it says more and counts as full. Else prove '..UptoSaid'. A law counts once. -/
mutual
def uptoBulk {H : Type} : DataW H → Nat
  | .lit (.string bytes) => bytes.length + 1
  | .lit _ => 1
  | .nil => 1
  | .ptr d => uptoBulk d + 1
  | .slice elems spare => uptoBulkAll elems + uptoBulkAll spare + 1
  | .agg parts => uptoBulkAll parts + 1
  | .iface _ d => uptoBulk d + 1
  | .map entries => uptoBulkEntries entries + 1
  | .held _ => 1
def uptoBulkAll {H : Type} : List (DataW H) → Nat
  | [] => 0
  | d :: r => uptoBulk d + uptoBulkAll r
def uptoBulkEntries {H : Type} : List (Lit × DataW H) → Nat
  | [] => 0
  | x :: r => uptoBulkEntry x + uptoBulkEntries r
def uptoBulkEntry {H : Type} : Lit × DataW H → Nat
  | (.string bytes, d) => bytes.length + uptoBulk d + 1
  | (_, d) => uptoBulk d + 1
 end
def uptoSmall : (H : Type) → List (DataW H) → Bool := fun _ ds => decide (uptoBulkAll ds ≤ 1048576)
def OpenSpec.upto (s : _root_.Go.ChangeSpec) : _root_.Go.OpenSpec := { _root_.Go.OpenSpec.ofChange s with cond := some uptoSmall }

/-- 'counterprooflaw11.IrrunTurned', WHERE WHAT IT READS IS OF BULK AT MOST 1048576: true; the input reads as it did. -/
def irrunTurnedUptoRow : OpenClaim := { program := "ytknccacfhknnaaagreat", sum := "b02deca3991a17618c4443e090ac28793adad11bf90a7723578e30d4e17f17ac", func := "counterproof/counterprooflaw11.IrrunTurned", spec := "irrunTurned", unfollowed := true, recurses := true, apart := false, narrowed := true }
def IrrunTurnedUptoSaid : Prop := irrunTurnedUptoRow.holds Tryz.pinned (OpenSpec.upto irrunTurnedSpec)

/-- 'counterprooflaw13.FlowAnything', WHERE WHAT IT READS IS OF BULK AT MOST 1048576: true; the input reads as it did. -/
def flowAnythingUptoRow : OpenClaim := { program := "ytknccacfhknnaaagreat", sum := "b02deca3991a17618c4443e090ac28793adad11bf90a7723578e30d4e17f17ac", func := "counterproof/counterprooflaw13.FlowAnything", spec := "flowAnything", unfollowed := true, recurses := true, apart := false, narrowed := true }
def FlowAnythingUptoSaid : Prop := flowAnythingUptoRow.holds Tryz.pinned (OpenSpec.upto flowAnythingSpec)

/-- 'counterprooflaw13.FlowReach', WHERE WHAT IT READS IS OF BULK AT MOST 1048576: true; the input reads as it did. -/
def flowReachUptoRow : OpenClaim := { program := "ytknccacfhknnaaagreat", sum := "b02deca3991a17618c4443e090ac28793adad11bf90a7723578e30d4e17f17ac", func := "counterproof/counterprooflaw13.FlowReach", spec := "flowReach", unfollowed := true, recurses := true, apart := false, narrowed := true }
def FlowReachUptoSaid : Prop := flowReachUptoRow.holds Tryz.pinned (OpenSpec.upto flowReachSpec)

end Rows
end Go.Proofs.YtknccacfhknnaaaGreat
