/-
  No cell of these rows narrows 'for every input' (looked for: loops, veiled, ifaces, maps, wideKeys, modest, calm, conditions, laid).
  DERIVED. THE GIVEN ROWS OF THIS SEAT. 5 by the template 'for every input the law returns true; each argument reads behind the call as it read before'; 0 by the template 'total and deterministic' (their statements: YtglnepokollijaaTotals.lean).
  GIVEN WITH THE SEED: the statements are not yours to turn. If you find one false, say at which input.
  Laid BY PROGRAM, IN A SANDBOX (cutbox-rows.mjs): the forced cells as the released guide's own fill.sh prints them over the translation 9ae4140709b4763e… (all of the seat's roots in one cut). By AI agents, Wed Nov 11 2026. No macro, syntax, notation, axiom, sorry.
-/
import Derived.Test.YtglnepokollijaaChecked
import GoSem.Claim
import GoSem.ClaimJoined
import GoSem.ClaimMapViews
import Derived.JoinedTies
import Derived.KernelRfl
namespace Go.Proofs.Ytglnepokollijaa
/- THE CELL 'sum', in the pinned program and in every row, IS THE sha256 OF THE DUMP (.gsa) THAT YtglnepokollijaaProg.lean LOADS. Nothing in Lean hashes anything: it is a label: what it is worth is what the hold of that sum in a sandbox is worth. -/
noncomputable def Try.pinned : Pinned := { name := "ytglnepokollijaa", sum := "9ae4140709b4763e11c13bbad326db51b7c00c5180cba33a811570071c203806", checked := Try.checked }
namespace Rows
def none {H : Type} : Left H := { results := [], args := [] }

/-- 'ciboriumlaw04.ShareSplits': WHATEVER THE INPUT: true; the input reads as it did. -/
def shareSplitsSpec : ChangeSpec := { name := "shareSplits", fn := fun _ => fun
  | [d] => { results := [.lit (.bool true)], args := [d] }
  | _ => none }
def shareSplitsRow : OpenClaim := { program := "ytglnepokollijaa", sum := "9ae4140709b4763e11c13bbad326db51b7c00c5180cba33a811570071c203806", func := "ciborium/ciboriumlaw04.ShareSplits", spec := "shareSplits", unfollowed := true, recurses := true, apart := false }
def ShareSplitsSaid : Prop := shareSplitsRow.holds Try.pinned (OpenSpec.ofChange shareSplitsSpec)

/-- ITS FALSE NEIGHBOUR: 'it returns false'. Refute it at one input. -/
def shareSplitsWrong : ChangeSpec := { name := "shareSplits", fn := fun _ => fun
  | [d] => { results := [.lit (.bool false)], args := [d] }
  | _ => none }
def ShareSplitsWrongFalsely : Prop := shareSplitsRow.holds Try.pinned (OpenSpec.ofChange shareSplitsWrong)

/-- 'ciboriumlaw04.ShareSecret': WHATEVER THE INPUT: true; the input reads as it did. -/
def shareSecretSpec : ChangeSpec := { name := "shareSecret", fn := fun _ => fun
  | [d] => { results := [.lit (.bool true)], args := [d] }
  | _ => none }
def shareSecretRow : OpenClaim := { program := "ytglnepokollijaa", sum := "9ae4140709b4763e11c13bbad326db51b7c00c5180cba33a811570071c203806", func := "ciborium/ciboriumlaw04.ShareSecret", spec := "shareSecret", unfollowed := true, recurses := true, apart := false }
def ShareSecretSaid : Prop := shareSecretRow.holds Try.pinned (OpenSpec.ofChange shareSecretSpec)

/-- ITS FALSE NEIGHBOUR: 'it returns false'. Refute it at one input. -/
def shareSecretWrong : ChangeSpec := { name := "shareSecret", fn := fun _ => fun
  | [d] => { results := [.lit (.bool false)], args := [d] }
  | _ => none }
def ShareSecretWrongFalsely : Prop := shareSecretRow.holds Try.pinned (OpenSpec.ofChange shareSecretWrong)

/-- 'ciboriumlaw04.ShareCombines': WHATEVER THE INPUT: true; the input reads as it did. -/
def shareCombinesSpec : ChangeSpec := { name := "shareCombines", fn := fun _ => fun
  | [d1, d2] => { results := [.lit (.bool true)], args := [d1, d2] }
  | _ => none }
def shareCombinesRow : OpenClaim := { program := "ytglnepokollijaa", sum := "9ae4140709b4763e11c13bbad326db51b7c00c5180cba33a811570071c203806", func := "ciborium/ciboriumlaw04.ShareCombines", spec := "shareCombines", unfollowed := true, recurses := true, apart := false }
def ShareCombinesSaid : Prop := shareCombinesRow.holds Try.pinned (OpenSpec.ofChange shareCombinesSpec)

/-- ITS FALSE NEIGHBOUR: 'it returns false'. Refute it at one input. -/
def shareCombinesWrong : ChangeSpec := { name := "shareCombines", fn := fun _ => fun
  | [d1, d2] => { results := [.lit (.bool false)], args := [d1, d2] }
  | _ => none }
def ShareCombinesWrongFalsely : Prop := shareCombinesRow.holds Try.pinned (OpenSpec.ofChange shareCombinesWrong)

/-- 'ciboriumlaw04.ShareBack': WHATEVER THE INPUT: true; the input reads as it did. -/
def shareBackSpec : ChangeSpec := { name := "shareBack", fn := fun _ => fun
  | [d] => { results := [.lit (.bool true)], args := [d] }
  | _ => none }
def shareBackRow : OpenClaim := { program := "ytglnepokollijaa", sum := "9ae4140709b4763e11c13bbad326db51b7c00c5180cba33a811570071c203806", func := "ciborium/ciboriumlaw04.ShareBack", spec := "shareBack", unfollowed := true, recurses := true, apart := false }
def ShareBackSaid : Prop := shareBackRow.holds Try.pinned (OpenSpec.ofChange shareBackSpec)

/-- ITS FALSE NEIGHBOUR: 'it returns false'. Refute it at one input. -/
def shareBackWrong : ChangeSpec := { name := "shareBack", fn := fun _ => fun
  | [d] => { results := [.lit (.bool false)], args := [d] }
  | _ => none }
def ShareBackWrongFalsely : Prop := shareBackRow.holds Try.pinned (OpenSpec.ofChange shareBackWrong)

/-- 'ciboriumlaw04.ShareTexts': WHATEVER THE INPUT: true; the input reads as it did. -/
def shareTextsSpec : ChangeSpec := { name := "shareTexts", fn := fun _ => fun
  | [d1, d2] => { results := [.lit (.bool true)], args := [d1, d2] }
  | _ => none }
def shareTextsRow : OpenClaim := { program := "ytglnepokollijaa", sum := "9ae4140709b4763e11c13bbad326db51b7c00c5180cba33a811570071c203806", func := "ciborium/ciboriumlaw04.ShareTexts", spec := "shareTexts", unfollowed := true, recurses := true, apart := false }
def ShareTextsSaid : Prop := shareTextsRow.holds Try.pinned (OpenSpec.ofChange shareTextsSpec)

/-- ITS FALSE NEIGHBOUR: 'it returns false'. Refute it at one input. -/
def shareTextsWrong : ChangeSpec := { name := "shareTexts", fn := fun _ => fun
  | [d1, d2] => { results := [.lit (.bool false)], args := [d1, d2] }
  | _ => none }
def ShareTextsWrongFalsely : Prop := shareTextsRow.holds Try.pinned (OpenSpec.ofChange shareTextsWrong)

/- THE SECOND FORM. 'bulk': how many values and letters a reading holds, each counted each time it is reached (what is shared counts as often as it is met; a slice's spare places count too). A statement '..UptoSaid' is the law's where the arguments, and the package variables that the reading takes, are together of bulk at most 1048576: NARROWER than '..Said'. Prove '..Said' where nothing that the law and all that it calls make is longer than what came in: it says more and counts as full. Else prove '..UptoSaid'. A law counts once. -/
mutual
def uptoBulk {H : Type} : DataW H → Nat
  | .lit (.string bytes) => bytes.length + 1
  | .lit _ => 1
  | .nil => 1
  | .ptr d => uptoBulk d + 1
  | .slice elems spare => uptoBulkAll elems + uptoBulkAll spare + 1
  | .agg parts => uptoBulkAll parts + 1
  | .iface _ d => uptoBulk d + 1
  | .map entries => uptoBulkEntries entries + 1
  | .held _ => 1
def uptoBulkAll {H : Type} : List (DataW H) → Nat
  | [] => 0
  | d :: r => uptoBulk d + uptoBulkAll r
def uptoBulkEntries {H : Type} : List (Lit × DataW H) → Nat
  | [] => 0
  | x :: r => uptoBulkEntry x + uptoBulkEntries r
def uptoBulkEntry {H : Type} : Lit × DataW H → Nat
  | (.string bytes, d) => bytes.length + uptoBulk d + 1
  | (_, d) => uptoBulk d + 1
 end
def uptoSmall : (H : Type) → List (DataW H) → Bool := fun _ ds => decide (uptoBulkAll ds ≤ 1048576)
def OpenSpec.upto (s : _root_.Go.ChangeSpec) : _root_.Go.OpenSpec := { _root_.Go.OpenSpec.ofChange s with cond := some uptoSmall }

/-- 'ciboriumlaw04.ShareSplits', WHERE WHAT IT READS IS OF BULK AT MOST 1048576: true; the input reads as it did. -/
def shareSplitsUptoRow : OpenClaim := { program := "ytglnepokollijaa", sum := "9ae4140709b4763e11c13bbad326db51b7c00c5180cba33a811570071c203806", func := "ciborium/ciboriumlaw04.ShareSplits", spec := "shareSplits", unfollowed := true, recurses := true, apart := false, narrowed := true }
def ShareSplitsUptoSaid : Prop := shareSplitsUptoRow.holds Try.pinned (OpenSpec.upto shareSplitsSpec)

/-- 'ciboriumlaw04.ShareSecret', WHERE WHAT IT READS IS OF BULK AT MOST 1048576: true; the input reads as it did. -/
def shareSecretUptoRow : OpenClaim := { program := "ytglnepokollijaa", sum := "9ae4140709b4763e11c13bbad326db51b7c00c5180cba33a811570071c203806", func := "ciborium/ciboriumlaw04.ShareSecret", spec := "shareSecret", unfollowed := true, recurses := true, apart := false, narrowed := true }
def ShareSecretUptoSaid : Prop := shareSecretUptoRow.holds Try.pinned (OpenSpec.upto shareSecretSpec)

/-- 'ciboriumlaw04.ShareCombines', WHERE WHAT IT READS IS OF BULK AT MOST 1048576: true; the input reads as it did. -/
def shareCombinesUptoRow : OpenClaim := { program := "ytglnepokollijaa", sum := "9ae4140709b4763e11c13bbad326db51b7c00c5180cba33a811570071c203806", func := "ciborium/ciboriumlaw04.ShareCombines", spec := "shareCombines", unfollowed := true, recurses := true, apart := false, narrowed := true }
def ShareCombinesUptoSaid : Prop := shareCombinesUptoRow.holds Try.pinned (OpenSpec.upto shareCombinesSpec)

/-- 'ciboriumlaw04.ShareBack', WHERE WHAT IT READS IS OF BULK AT MOST 1048576: true; the input reads as it did. -/
def shareBackUptoRow : OpenClaim := { program := "ytglnepokollijaa", sum := "9ae4140709b4763e11c13bbad326db51b7c00c5180cba33a811570071c203806", func := "ciborium/ciboriumlaw04.ShareBack", spec := "shareBack", unfollowed := true, recurses := true, apart := false, narrowed := true }
def ShareBackUptoSaid : Prop := shareBackUptoRow.holds Try.pinned (OpenSpec.upto shareBackSpec)

/-- 'ciboriumlaw04.ShareTexts', WHERE WHAT IT READS IS OF BULK AT MOST 1048576: true; the input reads as it did. -/
def shareTextsUptoRow : OpenClaim := { program := "ytglnepokollijaa", sum := "9ae4140709b4763e11c13bbad326db51b7c00c5180cba33a811570071c203806", func := "ciborium/ciboriumlaw04.ShareTexts", spec := "shareTexts", unfollowed := true, recurses := true, apart := false, narrowed := true }
def ShareTextsUptoSaid : Prop := shareTextsUptoRow.holds Try.pinned (OpenSpec.upto shareTextsSpec)

end Rows
end Go.Proofs.Ytglnepokollijaa
