/-
  No cell of these rows narrows 'for every input' (looked for: loops, veiled, ifaces, maps, wideKeys, modest, calm, conditions, laid).
  DERIVED. THE GIVEN ROWS OF THIS SEAT. 6 by the template 'for every input the law returns true; each argument reads behind the call as it read before'; 0 by the template 'total and deterministic' (their statements: YtmignlclfbaifaaGreatTotals.lean).
  GIVEN WITH THE SEED: the statements are not yours to turn. If you find one false, say at which input.
  Laid BY PROGRAM, IN A SANDBOX (cutbox-rows.mjs): the forced cells as the released guide's own fill.sh prints them over the translation 614bae7774580453… (all of the seat's roots in one cut). By AI agents, Wed Nov 11 2026. No macro, syntax, notation, axiom, sorry.
-/
import Derived.Test.YtmignlclfbaifaaGreatChecked
import GoSem.Claim
import GoSem.ClaimJoined
import GoSem.ClaimMapViews
import Derived.JoinedTies
import Derived.KernelRfl
namespace Go.Proofs.YtmignlclfbaifaaGreat
/- THE CELL 'sum', in the pinned program and in every row, IS THE sha256 OF THE DUMP (.gsa) THAT YtmignlclfbaifaaGreatProg.lean LOADS. Nothing in Lean hashes anything: it is a label: what it is worth is what the hold of that sum in a sandbox is worth. -/
noncomputable def Tryz.pinned : Pinned := { name := "ytmignlclfbaifaagreat", sum := "614bae77745804534e5f6e72e4e5f1ba9be9f83f8d6b3d9b343540b953ff7cf4", checked := Tryz.checked }
namespace Rows
def none {H : Type} : Left H := { results := [], args := [] }

/-- 'counterprooflaw05.CheckTells': WHATEVER THE INPUT: true; the input reads as it did. -/
def checkTellsSpec : ChangeSpec := { name := "checkTells", fn := fun _ => fun
  | [d1, d2, d3, d4] => { results := [.lit (.bool true)], args := [d1, d2, d3, d4] }
  | _ => none }
def checkTellsRow : OpenClaim := { program := "ytmignlclfbaifaagreat", sum := "614bae77745804534e5f6e72e4e5f1ba9be9f83f8d6b3d9b343540b953ff7cf4", func := "counterproof/counterprooflaw05.CheckTells", spec := "checkTells", unfollowed := true, recurses := true, apart := false }
def CheckTellsSaid : Prop := checkTellsRow.holds Tryz.pinned (OpenSpec.ofChange checkTellsSpec)

/-- ITS FALSE NEIGHBOUR: 'it returns false'. Refute it at one input. -/
def checkTellsWrong : ChangeSpec := { name := "checkTells", fn := fun _ => fun
  | [d1, d2, d3, d4] => { results := [.lit (.bool false)], args := [d1, d2, d3, d4] }
  | _ => none }
def CheckTellsWrongFalsely : Prop := checkTellsRow.holds Tryz.pinned (OpenSpec.ofChange checkTellsWrong)

/-- 'counterprooflaw05.CheckMade': WHATEVER THE INPUT: true; the input reads as it did. -/
def checkMadeSpec : ChangeSpec := { name := "checkMade", fn := fun _ => fun
  | [d1, d2] => { results := [.lit (.bool true)], args := [d1, d2] }
  | _ => none }
def checkMadeRow : OpenClaim := { program := "ytmignlclfbaifaagreat", sum := "614bae77745804534e5f6e72e4e5f1ba9be9f83f8d6b3d9b343540b953ff7cf4", func := "counterproof/counterprooflaw05.CheckMade", spec := "checkMade", unfollowed := true, recurses := true, apart := false }
def CheckMadeSaid : Prop := checkMadeRow.holds Tryz.pinned (OpenSpec.ofChange checkMadeSpec)

/-- ITS FALSE NEIGHBOUR: 'it returns false'. Refute it at one input. -/
def checkMadeWrong : ChangeSpec := { name := "checkMade", fn := fun _ => fun
  | [d1, d2] => { results := [.lit (.bool false)], args := [d1, d2] }
  | _ => none }
def CheckMadeWrongFalsely : Prop := checkMadeRow.holds Tryz.pinned (OpenSpec.ofChange checkMadeWrong)

/-- 'counterprooflaw05.CheckWrong': WHATEVER THE INPUT: true; the input reads as it did. -/
def checkWrongSpec : ChangeSpec := { name := "checkWrong", fn := fun _ => fun
  | [d1, d2, d3] => { results := [.lit (.bool true)], args := [d1, d2, d3] }
  | _ => none }
def checkWrongRow : OpenClaim := { program := "ytmignlclfbaifaagreat", sum := "614bae77745804534e5f6e72e4e5f1ba9be9f83f8d6b3d9b343540b953ff7cf4", func := "counterproof/counterprooflaw05.CheckWrong", spec := "checkWrong", unfollowed := true, recurses := true, apart := false }
def CheckWrongSaid : Prop := checkWrongRow.holds Tryz.pinned (OpenSpec.ofChange checkWrongSpec)

/-- ITS FALSE NEIGHBOUR: 'it returns false'. Refute it at one input. -/
def checkWrongWrong : ChangeSpec := { name := "checkWrong", fn := fun _ => fun
  | [d1, d2, d3] => { results := [.lit (.bool false)], args := [d1, d2, d3] }
  | _ => none }
def CheckWrongWrongFalsely : Prop := checkWrongRow.holds Tryz.pinned (OpenSpec.ofChange checkWrongWrong)

/-- 'counterprooflaw05.CheckTwice': WHATEVER THE INPUT: true; the input reads as it did. -/
def checkTwiceSpec : ChangeSpec := { name := "checkTwice", fn := fun _ => fun
  | [d1, d2, d3] => { results := [.lit (.bool true)], args := [d1, d2, d3] }
  | _ => none }
def checkTwiceRow : OpenClaim := { program := "ytmignlclfbaifaagreat", sum := "614bae77745804534e5f6e72e4e5f1ba9be9f83f8d6b3d9b343540b953ff7cf4", func := "counterproof/counterprooflaw05.CheckTwice", spec := "checkTwice", unfollowed := true, recurses := true, apart := false }
def CheckTwiceSaid : Prop := checkTwiceRow.holds Tryz.pinned (OpenSpec.ofChange checkTwiceSpec)

/-- ITS FALSE NEIGHBOUR: 'it returns false'. Refute it at one input. -/
def checkTwiceWrong : ChangeSpec := { name := "checkTwice", fn := fun _ => fun
  | [d1, d2, d3] => { results := [.lit (.bool false)], args := [d1, d2, d3] }
  | _ => none }
def CheckTwiceWrongFalsely : Prop := checkTwiceRow.holds Tryz.pinned (OpenSpec.ofChange checkTwiceWrong)

/-- 'counterprooflaw05.CheckPlaces': WHATEVER THE INPUT: true; the input reads as it did. -/
def checkPlacesSpec : ChangeSpec := { name := "checkPlaces", fn := fun _ => fun
  | [d] => { results := [.lit (.bool true)], args := [d] }
  | _ => none }
def checkPlacesRow : OpenClaim := { program := "ytmignlclfbaifaagreat", sum := "614bae77745804534e5f6e72e4e5f1ba9be9f83f8d6b3d9b343540b953ff7cf4", func := "counterproof/counterprooflaw05.CheckPlaces", spec := "checkPlaces", unfollowed := true, recurses := true, apart := false }
def CheckPlacesSaid : Prop := checkPlacesRow.holds Tryz.pinned (OpenSpec.ofChange checkPlacesSpec)

/-- ITS FALSE NEIGHBOUR: 'it returns false'. Refute it at one input. -/
def checkPlacesWrong : ChangeSpec := { name := "checkPlaces", fn := fun _ => fun
  | [d] => { results := [.lit (.bool false)], args := [d] }
  | _ => none }
def CheckPlacesWrongFalsely : Prop := checkPlacesRow.holds Tryz.pinned (OpenSpec.ofChange checkPlacesWrong)

/-- 'counterprooflaw05.CheckFirst': WHATEVER THE INPUT: true; the input reads as it did. -/
def checkFirstSpec : ChangeSpec := { name := "checkFirst", fn := fun _ => fun
  | [d1, d2, d3, d4] => { results := [.lit (.bool true)], args := [d1, d2, d3, d4] }
  | _ => none }
def checkFirstRow : OpenClaim := { program := "ytmignlclfbaifaagreat", sum := "614bae77745804534e5f6e72e4e5f1ba9be9f83f8d6b3d9b343540b953ff7cf4", func := "counterproof/counterprooflaw05.CheckFirst", spec := "checkFirst", unfollowed := true, recurses := true, apart := false }
def CheckFirstSaid : Prop := checkFirstRow.holds Tryz.pinned (OpenSpec.ofChange checkFirstSpec)

/-- ITS FALSE NEIGHBOUR: 'it returns false'. Refute it at one input. -/
def checkFirstWrong : ChangeSpec := { name := "checkFirst", fn := fun _ => fun
  | [d1, d2, d3, d4] => { results := [.lit (.bool false)], args := [d1, d2, d3, d4] }
  | _ => none }
def CheckFirstWrongFalsely : Prop := checkFirstRow.holds Tryz.pinned (OpenSpec.ofChange checkFirstWrong)

/- THE SECOND FORM. 'bulk': how many values and letters a reading holds, each counted each time it is reached (what is shared counts as often as it is met; a slice's spare places count too). A statement '..UptoSaid' is the law's where the arguments, and the package variables that the reading takes, are together of bulk at most 1048576: NARROWER than '..Said'. Prove '..Said' where nothing that the law and all that it calls make is longer than what came in: it says more and counts as full. Else prove '..UptoSaid'. A law counts once. -/
mutual
def uptoBulk {H : Type} : DataW H → Nat
  | .lit (.string bytes) => bytes.length + 1
  | .lit _ => 1
  | .nil => 1
  | .ptr d => uptoBulk d + 1
  | .slice elems spare => uptoBulkAll elems + uptoBulkAll spare + 1
  | .agg parts => uptoBulkAll parts + 1
  | .iface _ d => uptoBulk d + 1
  | .map entries => uptoBulkEntries entries + 1
  | .held _ => 1
def uptoBulkAll {H : Type} : List (DataW H) → Nat
  | [] => 0
  | d :: r => uptoBulk d + uptoBulkAll r
def uptoBulkEntries {H : Type} : List (Lit × DataW H) → Nat
  | [] => 0
  | x :: r => uptoBulkEntry x + uptoBulkEntries r
def uptoBulkEntry {H : Type} : Lit × DataW H → Nat
  | (.string bytes, d) => bytes.length + uptoBulk d + 1
  | (_, d) => uptoBulk d + 1
 end
def uptoSmall : (H : Type) → List (DataW H) → Bool := fun _ ds => decide (uptoBulkAll ds ≤ 1048576)
def OpenSpec.upto (s : _root_.Go.ChangeSpec) : _root_.Go.OpenSpec := { _root_.Go.OpenSpec.ofChange s with cond := some uptoSmall }

/-- 'counterprooflaw05.CheckTells', WHERE WHAT IT READS IS OF BULK AT MOST 1048576: true; the input reads as it did. -/
def checkTellsUptoRow : OpenClaim := { program := "ytmignlclfbaifaagreat", sum := "614bae77745804534e5f6e72e4e5f1ba9be9f83f8d6b3d9b343540b953ff7cf4", func := "counterproof/counterprooflaw05.CheckTells", spec := "checkTells", unfollowed := true, recurses := true, apart := false, narrowed := true }
def CheckTellsUptoSaid : Prop := checkTellsUptoRow.holds Tryz.pinned (OpenSpec.upto checkTellsSpec)

/-- 'counterprooflaw05.CheckMade', WHERE WHAT IT READS IS OF BULK AT MOST 1048576: true; the input reads as it did. -/
def checkMadeUptoRow : OpenClaim := { program := "ytmignlclfbaifaagreat", sum := "614bae77745804534e5f6e72e4e5f1ba9be9f83f8d6b3d9b343540b953ff7cf4", func := "counterproof/counterprooflaw05.CheckMade", spec := "checkMade", unfollowed := true, recurses := true, apart := false, narrowed := true }
def CheckMadeUptoSaid : Prop := checkMadeUptoRow.holds Tryz.pinned (OpenSpec.upto checkMadeSpec)

/-- 'counterprooflaw05.CheckWrong', WHERE WHAT IT READS IS OF BULK AT MOST 1048576: true; the input reads as it did. -/
def checkWrongUptoRow : OpenClaim := { program := "ytmignlclfbaifaagreat", sum := "614bae77745804534e5f6e72e4e5f1ba9be9f83f8d6b3d9b343540b953ff7cf4", func := "counterproof/counterprooflaw05.CheckWrong", spec := "checkWrong", unfollowed := true, recurses := true, apart := false, narrowed := true }
def CheckWrongUptoSaid : Prop := checkWrongUptoRow.holds Tryz.pinned (OpenSpec.upto checkWrongSpec)

/-- 'counterprooflaw05.CheckTwice', WHERE WHAT IT READS IS OF BULK AT MOST 1048576: true; the input reads as it did. -/
def checkTwiceUptoRow : OpenClaim := { program := "ytmignlclfbaifaagreat", sum := "614bae77745804534e5f6e72e4e5f1ba9be9f83f8d6b3d9b343540b953ff7cf4", func := "counterproof/counterprooflaw05.CheckTwice", spec := "checkTwice", unfollowed := true, recurses := true, apart := false, narrowed := true }
def CheckTwiceUptoSaid : Prop := checkTwiceUptoRow.holds Tryz.pinned (OpenSpec.upto checkTwiceSpec)

/-- 'counterprooflaw05.CheckPlaces', WHERE WHAT IT READS IS OF BULK AT MOST 1048576: true; the input reads as it did. -/
def checkPlacesUptoRow : OpenClaim := { program := "ytmignlclfbaifaagreat", sum := "614bae77745804534e5f6e72e4e5f1ba9be9f83f8d6b3d9b343540b953ff7cf4", func := "counterproof/counterprooflaw05.CheckPlaces", spec := "checkPlaces", unfollowed := true, recurses := true, apart := false, narrowed := true }
def CheckPlacesUptoSaid : Prop := checkPlacesUptoRow.holds Tryz.pinned (OpenSpec.upto checkPlacesSpec)

/-- 'counterprooflaw05.CheckFirst', WHERE WHAT IT READS IS OF BULK AT MOST 1048576: true; the input reads as it did. -/
def checkFirstUptoRow : OpenClaim := { program := "ytmignlclfbaifaagreat", sum := "614bae77745804534e5f6e72e4e5f1ba9be9f83f8d6b3d9b343540b953ff7cf4", func := "counterproof/counterprooflaw05.CheckFirst", spec := "checkFirst", unfollowed := true, recurses := true, apart := false, narrowed := true }
def CheckFirstUptoSaid : Prop := checkFirstUptoRow.holds Tryz.pinned (OpenSpec.upto checkFirstSpec)

end Rows
end Go.Proofs.YtmignlclfbaifaaGreat
