/-
  No cell of these rows narrows 'for every input' (looked for: loops, veiled, ifaces, maps, wideKeys, modest, calm, conditions, laid).
  DERIVED. THE GIVEN ROWS OF THIS SEAT. 6 by the template 'for every input the law returns true; each argument reads behind the call as it read before'; 0 by the template 'total and deterministic' (their statements: YtaadeokgcacibaaTotals.lean).
  GIVEN WITH THE SEED: the statements are not yours to turn. If you find one false, say at which input.
  Laid BY PROGRAM, IN A SANDBOX (cutbox-rows.mjs): the forced cells as the released guide's own fill.sh prints them over the translation a245de454987184b… (all of the seat's roots in one cut). By AI agents, Wed Nov 11 2026. No macro, syntax, notation, axiom, sorry.
-/
import Derived.Test.YtaadeokgcacibaaChecked
import GoSem.Claim
import GoSem.ClaimJoined
import GoSem.ClaimMapViews
import Derived.JoinedTies
import Derived.KernelRfl
namespace Go.Proofs.Ytaadeokgcacibaa
/- THE CELL 'sum', in the pinned program and in every row, IS THE sha256 OF THE DUMP (.gsa) THAT YtaadeokgcacibaaProg.lean LOADS. Nothing in Lean hashes anything: it is a label: what it is worth is what the hold of that sum in a sandbox is worth. -/
noncomputable def Try.pinned : Pinned := { name := "ytaadeokgcacibaa", sum := "a245de454987184b0c700450aa41ba6230f453e34ac7e60462eb36dc8102d8e4", checked := Try.checked }
namespace Rows
def none {H : Type} : Left H := { results := [], args := [] }

/-- 'ciboriumlaw03.FieldPowers': WHATEVER THE INPUT: true; the input reads as it did. -/
def fieldPowersSpec : ChangeSpec := { name := "fieldPowers", fn := fun _ => fun
  | [d1, d2, d3] => { results := [.lit (.bool true)], args := [d1, d2, d3] }
  | _ => none }
def fieldPowersRow : OpenClaim := { program := "ytaadeokgcacibaa", sum := "a245de454987184b0c700450aa41ba6230f453e34ac7e60462eb36dc8102d8e4", func := "ciborium/ciboriumlaw03.FieldPowers", spec := "fieldPowers", unfollowed := true, recurses := true, apart := false }
def FieldPowersSaid : Prop := fieldPowersRow.holds Try.pinned (OpenSpec.ofChange fieldPowersSpec)

/-- ITS FALSE NEIGHBOUR: 'it returns false'. Refute it at one input. -/
def fieldPowersWrong : ChangeSpec := { name := "fieldPowers", fn := fun _ => fun
  | [d1, d2, d3] => { results := [.lit (.bool false)], args := [d1, d2, d3] }
  | _ => none }
def FieldPowersWrongFalsely : Prop := fieldPowersRow.holds Try.pinned (OpenSpec.ofChange fieldPowersWrong)

/-- 'ciboriumlaw03.FieldReckons': WHATEVER THE INPUT: true; the input reads as it did. -/
def fieldReckonsSpec : ChangeSpec := { name := "fieldReckons", fn := fun _ => fun
  | [d1, d2, d3] => { results := [.lit (.bool true)], args := [d1, d2, d3] }
  | _ => none }
def fieldReckonsRow : OpenClaim := { program := "ytaadeokgcacibaa", sum := "a245de454987184b0c700450aa41ba6230f453e34ac7e60462eb36dc8102d8e4", func := "ciborium/ciboriumlaw03.FieldReckons", spec := "fieldReckons", unfollowed := true, recurses := true, apart := false }
def FieldReckonsSaid : Prop := fieldReckonsRow.holds Try.pinned (OpenSpec.ofChange fieldReckonsSpec)

/-- ITS FALSE NEIGHBOUR: 'it returns false'. Refute it at one input. -/
def fieldReckonsWrong : ChangeSpec := { name := "fieldReckons", fn := fun _ => fun
  | [d1, d2, d3] => { results := [.lit (.bool false)], args := [d1, d2, d3] }
  | _ => none }
def FieldReckonsWrongFalsely : Prop := fieldReckonsRow.holds Try.pinned (OpenSpec.ofChange fieldReckonsWrong)

/-- 'ciboriumlaw03.FieldLaws': WHATEVER THE INPUT: true; the input reads as it did. -/
def fieldLawsSpec : ChangeSpec := { name := "fieldLaws", fn := fun _ => fun
  | [d1, d2, d3] => { results := [.lit (.bool true)], args := [d1, d2, d3] }
  | _ => none }
def fieldLawsRow : OpenClaim := { program := "ytaadeokgcacibaa", sum := "a245de454987184b0c700450aa41ba6230f453e34ac7e60462eb36dc8102d8e4", func := "ciborium/ciboriumlaw03.FieldLaws", spec := "fieldLaws", unfollowed := true, recurses := true, apart := false }
def FieldLawsSaid : Prop := fieldLawsRow.holds Try.pinned (OpenSpec.ofChange fieldLawsSpec)

/-- ITS FALSE NEIGHBOUR: 'it returns false'. Refute it at one input. -/
def fieldLawsWrong : ChangeSpec := { name := "fieldLaws", fn := fun _ => fun
  | [d1, d2, d3] => { results := [.lit (.bool false)], args := [d1, d2, d3] }
  | _ => none }
def FieldLawsWrongFalsely : Prop := fieldLawsRow.holds Try.pinned (OpenSpec.ofChange fieldLawsWrong)

/-- 'ciboriumlaw03.FieldEvals': WHATEVER THE INPUT: true; the input reads as it did. -/
def fieldEvalsSpec : ChangeSpec := { name := "fieldEvals", fn := fun _ => fun
  | [d1, d2] => { results := [.lit (.bool true)], args := [d1, d2] }
  | _ => none }
def fieldEvalsRow : OpenClaim := { program := "ytaadeokgcacibaa", sum := "a245de454987184b0c700450aa41ba6230f453e34ac7e60462eb36dc8102d8e4", func := "ciborium/ciboriumlaw03.FieldEvals", spec := "fieldEvals", unfollowed := true, recurses := true, apart := false }
def FieldEvalsSaid : Prop := fieldEvalsRow.holds Try.pinned (OpenSpec.ofChange fieldEvalsSpec)

/-- ITS FALSE NEIGHBOUR: 'it returns false'. Refute it at one input. -/
def fieldEvalsWrong : ChangeSpec := { name := "fieldEvals", fn := fun _ => fun
  | [d1, d2] => { results := [.lit (.bool false)], args := [d1, d2] }
  | _ => none }
def FieldEvalsWrongFalsely : Prop := fieldEvalsRow.holds Try.pinned (OpenSpec.ofChange fieldEvalsWrong)

/-- 'ciboriumlaw03.FieldPoints': WHATEVER THE INPUT: true; the input reads as it did. -/
def fieldPointsSpec : ChangeSpec := { name := "fieldPoints", fn := fun _ => fun
  | [d1, d2] => { results := [.lit (.bool true)], args := [d1, d2] }
  | _ => none }
def fieldPointsRow : OpenClaim := { program := "ytaadeokgcacibaa", sum := "a245de454987184b0c700450aa41ba6230f453e34ac7e60462eb36dc8102d8e4", func := "ciborium/ciboriumlaw03.FieldPoints", spec := "fieldPoints", unfollowed := true, recurses := true, apart := false }
def FieldPointsSaid : Prop := fieldPointsRow.holds Try.pinned (OpenSpec.ofChange fieldPointsSpec)

/-- ITS FALSE NEIGHBOUR: 'it returns false'. Refute it at one input. -/
def fieldPointsWrong : ChangeSpec := { name := "fieldPoints", fn := fun _ => fun
  | [d1, d2] => { results := [.lit (.bool false)], args := [d1, d2] }
  | _ => none }
def FieldPointsWrongFalsely : Prop := fieldPointsRow.holds Try.pinned (OpenSpec.ofChange fieldPointsWrong)

/-- 'ciboriumlaw03.FieldThrough': WHATEVER THE INPUT: true; the input reads as it did. -/
def fieldThroughSpec : ChangeSpec := { name := "fieldThrough", fn := fun _ => fun
  | [d1, d2, d3] => { results := [.lit (.bool true)], args := [d1, d2, d3] }
  | _ => none }
def fieldThroughRow : OpenClaim := { program := "ytaadeokgcacibaa", sum := "a245de454987184b0c700450aa41ba6230f453e34ac7e60462eb36dc8102d8e4", func := "ciborium/ciboriumlaw03.FieldThrough", spec := "fieldThrough", unfollowed := true, recurses := true, apart := false }
def FieldThroughSaid : Prop := fieldThroughRow.holds Try.pinned (OpenSpec.ofChange fieldThroughSpec)

/-- ITS FALSE NEIGHBOUR: 'it returns false'. Refute it at one input. -/
def fieldThroughWrong : ChangeSpec := { name := "fieldThrough", fn := fun _ => fun
  | [d1, d2, d3] => { results := [.lit (.bool false)], args := [d1, d2, d3] }
  | _ => none }
def FieldThroughWrongFalsely : Prop := fieldThroughRow.holds Try.pinned (OpenSpec.ofChange fieldThroughWrong)

/- THE SECOND FORM. 'bulk': how many values and letters a reading holds, each counted each time it is reached (what is shared counts as often as it is met; a slice's spare places count too). A statement '..UptoSaid' is the law's where the arguments, and the package variables that the reading takes, are together of bulk at most 1048576: NARROWER than '..Said'. Prove '..Said' where nothing that the law and all that it calls make is longer than what came in: it says more and counts as full. Else prove '..UptoSaid'. A law counts once. -/
mutual
def uptoBulk {H : Type} : DataW H → Nat
  | .lit (.string bytes) => bytes.length + 1
  | .lit _ => 1
  | .nil => 1
  | .ptr d => uptoBulk d + 1
  | .slice elems spare => uptoBulkAll elems + uptoBulkAll spare + 1
  | .agg parts => uptoBulkAll parts + 1
  | .iface _ d => uptoBulk d + 1
  | .map entries => uptoBulkEntries entries + 1
  | .held _ => 1
def uptoBulkAll {H : Type} : List (DataW H) → Nat
  | [] => 0
  | d :: r => uptoBulk d + uptoBulkAll r
def uptoBulkEntries {H : Type} : List (Lit × DataW H) → Nat
  | [] => 0
  | x :: r => uptoBulkEntry x + uptoBulkEntries r
def uptoBulkEntry {H : Type} : Lit × DataW H → Nat
  | (.string bytes, d) => bytes.length + uptoBulk d + 1
  | (_, d) => uptoBulk d + 1
 end
def uptoSmall : (H : Type) → List (DataW H) → Bool := fun _ ds => decide (uptoBulkAll ds ≤ 1048576)
def OpenSpec.upto (s : _root_.Go.ChangeSpec) : _root_.Go.OpenSpec := { _root_.Go.OpenSpec.ofChange s with cond := some uptoSmall }

/-- 'ciboriumlaw03.FieldPowers', WHERE WHAT IT READS IS OF BULK AT MOST 1048576: true; the input reads as it did. -/
def fieldPowersUptoRow : OpenClaim := { program := "ytaadeokgcacibaa", sum := "a245de454987184b0c700450aa41ba6230f453e34ac7e60462eb36dc8102d8e4", func := "ciborium/ciboriumlaw03.FieldPowers", spec := "fieldPowers", unfollowed := true, recurses := true, apart := false, narrowed := true }
def FieldPowersUptoSaid : Prop := fieldPowersUptoRow.holds Try.pinned (OpenSpec.upto fieldPowersSpec)

/-- 'ciboriumlaw03.FieldReckons', WHERE WHAT IT READS IS OF BULK AT MOST 1048576: true; the input reads as it did. -/
def fieldReckonsUptoRow : OpenClaim := { program := "ytaadeokgcacibaa", sum := "a245de454987184b0c700450aa41ba6230f453e34ac7e60462eb36dc8102d8e4", func := "ciborium/ciboriumlaw03.FieldReckons", spec := "fieldReckons", unfollowed := true, recurses := true, apart := false, narrowed := true }
def FieldReckonsUptoSaid : Prop := fieldReckonsUptoRow.holds Try.pinned (OpenSpec.upto fieldReckonsSpec)

/-- 'ciboriumlaw03.FieldLaws', WHERE WHAT IT READS IS OF BULK AT MOST 1048576: true; the input reads as it did. -/
def fieldLawsUptoRow : OpenClaim := { program := "ytaadeokgcacibaa", sum := "a245de454987184b0c700450aa41ba6230f453e34ac7e60462eb36dc8102d8e4", func := "ciborium/ciboriumlaw03.FieldLaws", spec := "fieldLaws", unfollowed := true, recurses := true, apart := false, narrowed := true }
def FieldLawsUptoSaid : Prop := fieldLawsUptoRow.holds Try.pinned (OpenSpec.upto fieldLawsSpec)

/-- 'ciboriumlaw03.FieldEvals', WHERE WHAT IT READS IS OF BULK AT MOST 1048576: true; the input reads as it did. -/
def fieldEvalsUptoRow : OpenClaim := { program := "ytaadeokgcacibaa", sum := "a245de454987184b0c700450aa41ba6230f453e34ac7e60462eb36dc8102d8e4", func := "ciborium/ciboriumlaw03.FieldEvals", spec := "fieldEvals", unfollowed := true, recurses := true, apart := false, narrowed := true }
def FieldEvalsUptoSaid : Prop := fieldEvalsUptoRow.holds Try.pinned (OpenSpec.upto fieldEvalsSpec)

/-- 'ciboriumlaw03.FieldPoints', WHERE WHAT IT READS IS OF BULK AT MOST 1048576: true; the input reads as it did. -/
def fieldPointsUptoRow : OpenClaim := { program := "ytaadeokgcacibaa", sum := "a245de454987184b0c700450aa41ba6230f453e34ac7e60462eb36dc8102d8e4", func := "ciborium/ciboriumlaw03.FieldPoints", spec := "fieldPoints", unfollowed := true, recurses := true, apart := false, narrowed := true }
def FieldPointsUptoSaid : Prop := fieldPointsUptoRow.holds Try.pinned (OpenSpec.upto fieldPointsSpec)

/-- 'ciboriumlaw03.FieldThrough', WHERE WHAT IT READS IS OF BULK AT MOST 1048576: true; the input reads as it did. -/
def fieldThroughUptoRow : OpenClaim := { program := "ytaadeokgcacibaa", sum := "a245de454987184b0c700450aa41ba6230f453e34ac7e60462eb36dc8102d8e4", func := "ciborium/ciboriumlaw03.FieldThrough", spec := "fieldThrough", unfollowed := true, recurses := true, apart := false, narrowed := true }
def FieldThroughUptoSaid : Prop := fieldThroughUptoRow.holds Try.pinned (OpenSpec.upto fieldThroughSpec)

end Rows
end Go.Proofs.Ytaadeokgcacibaa
