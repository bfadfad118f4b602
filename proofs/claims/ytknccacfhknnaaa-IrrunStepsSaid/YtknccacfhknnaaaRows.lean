/-
  No cell of these rows narrows 'for every input' (looked for: loops, veiled, ifaces, maps, wideKeys, modest, calm, conditions, laid).
  DERIVED. THE GIVEN ROWS OF THIS SEAT. 8 by the template 'for every input the law returns true; each argument reads behind the call as it read before'; 0 by the template 'total and deterministic' (their statements: YtknccacfhknnaaaTotals.lean).
  GIVEN WITH THE SEED: the statements are not yours to turn. If you find one false, say at which input.
  Laid BY PROGRAM, IN A SANDBOX (cutbox-rows.mjs): the forced cells as the released guide's own fill.sh prints them over the translation 24767593c68f08ca… (all of the seat's roots in one cut). By AI agents, Wed Nov 11 2026. No macro, syntax, notation, axiom, sorry.
-/
import Derived.Test.YtknccacfhknnaaaChecked
import GoSem.Claim
import GoSem.ClaimJoined
import GoSem.ClaimMapViews
import Derived.JoinedTies
import Derived.KernelRfl
namespace Go.Proofs.Ytknccacfhknnaaa
/- THE CELL 'sum', in the pinned program and in every row, IS THE sha256 OF THE DUMP (.gsa) THAT YtknccacfhknnaaaProg.lean LOADS. Nothing in Lean hashes anything: it is a label: what it is worth is what the hold of that sum in a sandbox is worth. -/
noncomputable def Try.pinned : Pinned := { name := "ytknccacfhknnaaa", sum := "24767593c68f08ca43c9246cd6b963f93060cbb76c2a249f5d839d982c52ede5", checked := Try.checked }
namespace Rows
def none {H : Type} : Left H := { results := [], args := [] }

/-- 'counterprooflaw13.FlowSteps': WHATEVER THE INPUT: true; the input reads as it did. -/
def flowStepsSpec : ChangeSpec := { name := "flowSteps", fn := fun _ => fun
  | [d1, d2] => { results := [.lit (.bool true)], args := [d1, d2] }
  | _ => none }
def flowStepsRow : OpenClaim := { program := "ytknccacfhknnaaa", sum := "24767593c68f08ca43c9246cd6b963f93060cbb76c2a249f5d839d982c52ede5", func := "counterproof/counterprooflaw13.FlowSteps", spec := "flowSteps", unfollowed := true, recurses := true, apart := false }
def FlowStepsSaid : Prop := flowStepsRow.holds Try.pinned (OpenSpec.ofChange flowStepsSpec)

/-- ITS FALSE NEIGHBOUR: 'it returns false'. Refute it at one input. -/
def flowStepsWrong : ChangeSpec := { name := "flowSteps", fn := fun _ => fun
  | [d1, d2] => { results := [.lit (.bool false)], args := [d1, d2] }
  | _ => none }
def FlowStepsWrongFalsely : Prop := flowStepsRow.holds Try.pinned (OpenSpec.ofChange flowStepsWrong)

/-- 'counterprooftop.Names': WHATEVER THE INPUT: true; the input reads as it did. -/
def namesSpec : ChangeSpec := { name := "names", fn := fun _ => fun
  | [] => { results := [.lit (.bool true)], args := [] }
  | _ => none }
def namesRow : OpenClaim := { program := "ytknccacfhknnaaa", sum := "24767593c68f08ca43c9246cd6b963f93060cbb76c2a249f5d839d982c52ede5", func := "counterproof/counterprooftop.Names", spec := "names", apart := false }
def NamesSaid : Prop := namesRow.holds Try.pinned (OpenSpec.ofChange namesSpec)

/-- ITS FALSE NEIGHBOUR: 'it returns false'. Refute it at one input. -/
def namesWrong : ChangeSpec := { name := "names", fn := fun _ => fun
  | [] => { results := [.lit (.bool false)], args := [] }
  | _ => none }
def NamesWrongFalsely : Prop := namesRow.holds Try.pinned (OpenSpec.ofChange namesWrong)

/-- 'counterprooflaw13.FlowCome': WHATEVER THE INPUT: true; the input reads as it did. -/
def flowComeSpec : ChangeSpec := { name := "flowCome", fn := fun _ => fun
  | [d1, d2] => { results := [.lit (.bool true)], args := [d1, d2] }
  | _ => none }
def flowComeRow : OpenClaim := { program := "ytknccacfhknnaaa", sum := "24767593c68f08ca43c9246cd6b963f93060cbb76c2a249f5d839d982c52ede5", func := "counterproof/counterprooflaw13.FlowCome", spec := "flowCome", unfollowed := true, recurses := true, apart := false }
def FlowComeSaid : Prop := flowComeRow.holds Try.pinned (OpenSpec.ofChange flowComeSpec)

/-- ITS FALSE NEIGHBOUR: 'it returns false'. Refute it at one input. -/
def flowComeWrong : ChangeSpec := { name := "flowCome", fn := fun _ => fun
  | [d1, d2] => { results := [.lit (.bool false)], args := [d1, d2] }
  | _ => none }
def FlowComeWrongFalsely : Prop := flowComeRow.holds Try.pinned (OpenSpec.ofChange flowComeWrong)

/-- 'counterprooflaw13.FlowStraight': WHATEVER THE INPUT: true; the input reads as it did. -/
def flowStraightSpec : ChangeSpec := { name := "flowStraight", fn := fun _ => fun
  | [d1, d2] => { results := [.lit (.bool true)], args := [d1, d2] }
  | _ => none }
def flowStraightRow : OpenClaim := { program := "ytknccacfhknnaaa", sum := "24767593c68f08ca43c9246cd6b963f93060cbb76c2a249f5d839d982c52ede5", func := "counterproof/counterprooflaw13.FlowStraight", spec := "flowStraight", unfollowed := true, recurses := true, apart := false }
def FlowStraightSaid : Prop := flowStraightRow.holds Try.pinned (OpenSpec.ofChange flowStraightSpec)

/-- ITS FALSE NEIGHBOUR: 'it returns false'. Refute it at one input. -/
def flowStraightWrong : ChangeSpec := { name := "flowStraight", fn := fun _ => fun
  | [d1, d2] => { results := [.lit (.bool false)], args := [d1, d2] }
  | _ => none }
def FlowStraightWrongFalsely : Prop := flowStraightRow.holds Try.pinned (OpenSpec.ofChange flowStraightWrong)

/-- 'counterprooflaw11.IrrunSteps': WHATEVER THE INPUT: true; the input reads as it did. -/
def irrunStepsSpec : ChangeSpec := { name := "irrunSteps", fn := fun _ => fun
  | [d1, d2, d3, d4] => { results := [.lit (.bool true)], args := [d1, d2, d3, d4] }
  | _ => none }
def irrunStepsRow : OpenClaim := { program := "ytknccacfhknnaaa", sum := "24767593c68f08ca43c9246cd6b963f93060cbb76c2a249f5d839d982c52ede5", func := "counterproof/counterprooflaw11.IrrunSteps", spec := "irrunSteps", unfollowed := true, recurses := true, apart := false }
def IrrunStepsSaid : Prop := irrunStepsRow.holds Try.pinned (OpenSpec.ofChange irrunStepsSpec)

/-- ITS FALSE NEIGHBOUR: 'it returns false'. Refute it at one input. -/
def irrunStepsWrong : ChangeSpec := { name := "irrunSteps", fn := fun _ => fun
  | [d1, d2, d3, d4] => { results := [.lit (.bool false)], args := [d1, d2, d3, d4] }
  | _ => none }
def IrrunStepsWrongFalsely : Prop := irrunStepsRow.holds Try.pinned (OpenSpec.ofChange irrunStepsWrong)

/-- 'counterprooflaw11.IrrunCounts': WHATEVER THE INPUT: true; the input reads as it did. -/
def irrunCountsSpec : ChangeSpec := { name := "irrunCounts", fn := fun _ => fun
  | [d1, d2] => { results := [.lit (.bool true)], args := [d1, d2] }
  | _ => none }
def irrunCountsRow : OpenClaim := { program := "ytknccacfhknnaaa", sum := "24767593c68f08ca43c9246cd6b963f93060cbb76c2a249f5d839d982c52ede5", func := "counterproof/counterprooflaw11.IrrunCounts", spec := "irrunCounts", unfollowed := true, recurses := true, apart := false }
def IrrunCountsSaid : Prop := irrunCountsRow.holds Try.pinned (OpenSpec.ofChange irrunCountsSpec)

/-- ITS FALSE NEIGHBOUR: 'it returns false'. Refute it at one input. -/
def irrunCountsWrong : ChangeSpec := { name := "irrunCounts", fn := fun _ => fun
  | [d1, d2] => { results := [.lit (.bool false)], args := [d1, d2] }
  | _ => none }
def IrrunCountsWrongFalsely : Prop := irrunCountsRow.holds Try.pinned (OpenSpec.ofChange irrunCountsWrong)

/-- 'counterprooflaw11.IrrunOps': WHATEVER THE INPUT: true; the input reads as it did. -/
def irrunOpsSpec : ChangeSpec := { name := "irrunOps", fn := fun _ => fun
  | [d1, d2, d3] => { results := [.lit (.bool true)], args := [d1, d2, d3] }
  | _ => none }
def irrunOpsRow : OpenClaim := { program := "ytknccacfhknnaaa", sum := "24767593c68f08ca43c9246cd6b963f93060cbb76c2a249f5d839d982c52ede5", func := "counterproof/counterprooflaw11.IrrunOps", spec := "irrunOps", unfollowed := true, recurses := true, apart := false }
def IrrunOpsSaid : Prop := irrunOpsRow.holds Try.pinned (OpenSpec.ofChange irrunOpsSpec)

/-- ITS FALSE NEIGHBOUR: 'it returns false'. Refute it at one input. -/
def irrunOpsWrong : ChangeSpec := { name := "irrunOps", fn := fun _ => fun
  | [d1, d2, d3] => { results := [.lit (.bool false)], args := [d1, d2, d3] }
  | _ => none }
def IrrunOpsWrongFalsely : Prop := irrunOpsRow.holds Try.pinned (OpenSpec.ofChange irrunOpsWrong)

/-- 'counterprooflaw11.IrrunArrays': WHATEVER THE INPUT: true; the input reads as it did. -/
def irrunArraysSpec : ChangeSpec := { name := "irrunArrays", fn := fun _ => fun
  | [d1, d2, d3] => { results := [.lit (.bool true)], args := [d1, d2, d3] }
  | _ => none }
def irrunArraysRow : OpenClaim := { program := "ytknccacfhknnaaa", sum := "24767593c68f08ca43c9246cd6b963f93060cbb76c2a249f5d839d982c52ede5", func := "counterproof/counterprooflaw11.IrrunArrays", spec := "irrunArrays", unfollowed := true, recurses := true, apart := false }
def IrrunArraysSaid : Prop := irrunArraysRow.holds Try.pinned (OpenSpec.ofChange irrunArraysSpec)

/-- ITS FALSE NEIGHBOUR: 'it returns false'. Refute it at one input. -/
def irrunArraysWrong : ChangeSpec := { name := "irrunArrays", fn := fun _ => fun
  | [d1, d2, d3] => { results := [.lit (.bool false)], args := [d1, d2, d3] }
  | _ => none }
def IrrunArraysWrongFalsely : Prop := irrunArraysRow.holds Try.pinned (OpenSpec.ofChange irrunArraysWrong)

/- THE SECOND FORM. 'bulk': how many values and letters a reading holds, each counted each time it is reached (what is shared counts as often as it is met; a slice's spare places count too). A statement '..UptoSaid' is the law's where the arguments, and the package variables that the reading takes, are together of bulk at most 1048576: NARROWER than '..Said'. Prove '..Said' where nothing that the law and all that it calls make is longer than what came in: it says more and counts as full. Else prove '..UptoSaid'. A law counts once. -/
mutual
def uptoBulk {H : Type} : DataW H → Nat
  | .lit (.string bytes) => bytes.length + 1
  | .lit _ => 1
  | .nil => 1
  | .ptr d => uptoBulk d + 1
  | .slice elems spare => uptoBulkAll elems + uptoBulkAll spare + 1
  | .agg parts => uptoBulkAll parts + 1
  | .iface _ d => uptoBulk d + 1
  | .map entries => uptoBulkEntries entries + 1
  | .held _ => 1
def uptoBulkAll {H : Type} : List (DataW H) → Nat
  | [] => 0
  | d :: r => uptoBulk d + uptoBulkAll r
def uptoBulkEntries {H : Type} : List (Lit × DataW H) → Nat
  | [] => 0
  | x :: r => uptoBulkEntry x + uptoBulkEntries r
def uptoBulkEntry {H : Type} : Lit × DataW H → Nat
  | (.string bytes, d) => bytes.length + uptoBulk d + 1
  | (_, d) => uptoBulk d + 1
 end
def uptoSmall : (H : Type) → List (DataW H) → Bool := fun _ ds => decide (uptoBulkAll ds ≤ 1048576)
def OpenSpec.upto (s : _root_.Go.ChangeSpec) : _root_.Go.OpenSpec := { _root_.Go.OpenSpec.ofChange s with cond := some uptoSmall }

/-- 'counterprooflaw13.FlowSteps', WHERE WHAT IT READS IS OF BULK AT MOST 1048576: true; the input reads as it did. -/
def flowStepsUptoRow : OpenClaim := { program := "ytknccacfhknnaaa", sum := "24767593c68f08ca43c9246cd6b963f93060cbb76c2a249f5d839d982c52ede5", func := "counterproof/counterprooflaw13.FlowSteps", spec := "flowSteps", unfollowed := true, recurses := true, apart := false, narrowed := true }
def FlowStepsUptoSaid : Prop := flowStepsUptoRow.holds Try.pinned (OpenSpec.upto flowStepsSpec)

/-- 'counterprooftop.Names', WHERE WHAT IT READS IS OF BULK AT MOST 1048576: true; the input reads as it did. -/
def namesUptoRow : OpenClaim := { program := "ytknccacfhknnaaa", sum := "24767593c68f08ca43c9246cd6b963f93060cbb76c2a249f5d839d982c52ede5", func := "counterproof/counterprooftop.Names", spec := "names", apart := false, narrowed := true }
def NamesUptoSaid : Prop := namesUptoRow.holds Try.pinned (OpenSpec.upto namesSpec)

/-- 'counterprooflaw13.FlowCome', WHERE WHAT IT READS IS OF BULK AT MOST 1048576: true; the input reads as it did. -/
def flowComeUptoRow : OpenClaim := { program := "ytknccacfhknnaaa", sum := "24767593c68f08ca43c9246cd6b963f93060cbb76c2a249f5d839d982c52ede5", func := "counterproof/counterprooflaw13.FlowCome", spec := "flowCome", unfollowed := true, recurses := true, apart := false, narrowed := true }
def FlowComeUptoSaid : Prop := flowComeUptoRow.holds Try.pinned (OpenSpec.upto flowComeSpec)

/-- 'counterprooflaw13.FlowStraight', WHERE WHAT IT READS IS OF BULK AT MOST 1048576: true; the input reads as it did. -/
def flowStraightUptoRow : OpenClaim := { program := "ytknccacfhknnaaa", sum := "24767593c68f08ca43c9246cd6b963f93060cbb76c2a249f5d839d982c52ede5", func := "counterproof/counterprooflaw13.FlowStraight", spec := "flowStraight", unfollowed := true, recurses := true, apart := false, narrowed := true }
def FlowStraightUptoSaid : Prop := flowStraightUptoRow.holds Try.pinned (OpenSpec.upto flowStraightSpec)

/-- 'counterprooflaw11.IrrunSteps', WHERE WHAT IT READS IS OF BULK AT MOST 1048576: true; the input reads as it did. -/
def irrunStepsUptoRow : OpenClaim := { program := "ytknccacfhknnaaa", sum := "24767593c68f08ca43c9246cd6b963f93060cbb76c2a249f5d839d982c52ede5", func := "counterproof/counterprooflaw11.IrrunSteps", spec := "irrunSteps", unfollowed := true, recurses := true, apart := false, narrowed := true }
def IrrunStepsUptoSaid : Prop := irrunStepsUptoRow.holds Try.pinned (OpenSpec.upto irrunStepsSpec)

/-- 'counterprooflaw11.IrrunCounts', WHERE WHAT IT READS IS OF BULK AT MOST 1048576: true; the input reads as it did. -/
def irrunCountsUptoRow : OpenClaim := { program := "ytknccacfhknnaaa", sum := "24767593c68f08ca43c9246cd6b963f93060cbb76c2a249f5d839d982c52ede5", func := "counterproof/counterprooflaw11.IrrunCounts", spec := "irrunCounts", unfollowed := true, recurses := true, apart := false, narrowed := true }
def IrrunCountsUptoSaid : Prop := irrunCountsUptoRow.holds Try.pinned (OpenSpec.upto irrunCountsSpec)

/-- 'counterprooflaw11.IrrunOps', WHERE WHAT IT READS IS OF BULK AT MOST 1048576: true; the input reads as it did. -/
def irrunOpsUptoRow : OpenClaim := { program := "ytknccacfhknnaaa", sum := "24767593c68f08ca43c9246cd6b963f93060cbb76c2a249f5d839d982c52ede5", func := "counterproof/counterprooflaw11.IrrunOps", spec := "irrunOps", unfollowed := true, recurses := true, apart := false, narrowed := true }
def IrrunOpsUptoSaid : Prop := irrunOpsUptoRow.holds Try.pinned (OpenSpec.upto irrunOpsSpec)

/-- 'counterprooflaw11.IrrunArrays', WHERE WHAT IT READS IS OF BULK AT MOST 1048576: true; the input reads as it did. -/
def irrunArraysUptoRow : OpenClaim := { program := "ytknccacfhknnaaa", sum := "24767593c68f08ca43c9246cd6b963f93060cbb76c2a249f5d839d982c52ede5", func := "counterproof/counterprooflaw11.IrrunArrays", spec := "irrunArrays", unfollowed := true, recurses := true, apart := false, narrowed := true }
def IrrunArraysUptoSaid : Prop := irrunArraysUptoRow.holds Try.pinned (OpenSpec.upto irrunArraysSpec)

end Rows
end Go.Proofs.Ytknccacfhknnaaa
