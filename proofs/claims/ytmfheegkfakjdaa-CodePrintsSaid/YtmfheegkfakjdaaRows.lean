/-
  No cell of these rows narrows 'for every input' (looked for: loops, veiled, ifaces, maps, wideKeys, modest, calm, conditions, laid).
  DERIVED. THE GIVEN ROWS OF THIS SEAT. 6 by the template 'for every input the law returns true; each argument reads behind the call as it read before'; 0 by the template 'total and deterministic' (their statements: YtmfheegkfakjdaaTotals.lean).
  GIVEN WITH THE SEED: the statements are not yours to turn. If you find one false, say at which input.
  Laid BY PROGRAM, IN A SANDBOX (cutbox-rows.mjs): the forced cells as the released guide's own fill.sh prints them over the translation f273a829ad5c4c06… (all of the seat's roots in one cut). By AI agents, Wed Nov 11 2026. No macro, syntax, notation, axiom, sorry.
-/
import Derived.Test.YtmfheegkfakjdaaChecked
import GoSem.Claim
import GoSem.ClaimJoined
import GoSem.ClaimMapViews
import Derived.JoinedTies
import Derived.KernelRfl
namespace Go.Proofs.Ytmfheegkfakjdaa
/- THE CELL 'sum', in the pinned program and in every row, IS THE sha256 OF THE DUMP (.gsa) THAT YtmfheegkfakjdaaProg.lean LOADS. Nothing in Lean hashes anything: it is a label: what it is worth is what the hold of that sum in a sandbox is worth. -/
noncomputable def Try.pinned : Pinned := { name := "ytmfheegkfakjdaa", sum := "f273a829ad5c4c06984ae6da161fad3e468650902b2bc937142bafe7d891d09b", checked := Try.checked }
namespace Rows
def none {H : Type} : Left H := { results := [], args := [] }

/-- 'lathelaw21.PruneTakes': WHATEVER THE INPUT: true; the input reads as it did. -/
def pruneTakesSpec : ChangeSpec := { name := "pruneTakes", fn := fun _ => fun
  | [d] => { results := [.lit (.bool true)], args := [d] }
  | _ => none }
def pruneTakesRow : OpenClaim := { program := "ytmfheegkfakjdaa", sum := "f273a829ad5c4c06984ae6da161fad3e468650902b2bc937142bafe7d891d09b", func := "lathe/lathelaw21.PruneTakes", spec := "pruneTakes", inPlace := ["internal/bytealg.IndexByteString"], unfollowed := true, recurses := true, apart := false }
def PruneTakesSaid : Prop := pruneTakesRow.holds Try.pinned (OpenSpec.ofChange pruneTakesSpec)

/-- ITS FALSE NEIGHBOUR: 'it returns false'. Refute it at one input. -/
def pruneTakesWrong : ChangeSpec := { name := "pruneTakes", fn := fun _ => fun
  | [d] => { results := [.lit (.bool false)], args := [d] }
  | _ => none }
def PruneTakesWrongFalsely : Prop := pruneTakesRow.holds Try.pinned (OpenSpec.ofChange pruneTakesWrong)

/-- 'lathelaw21.PruneAgain': WHATEVER THE INPUT: true; the input reads as it did. -/
def pruneAgainSpec : ChangeSpec := { name := "pruneAgain", fn := fun _ => fun
  | [d] => { results := [.lit (.bool true)], args := [d] }
  | _ => none }
def pruneAgainRow : OpenClaim := { program := "ytmfheegkfakjdaa", sum := "f273a829ad5c4c06984ae6da161fad3e468650902b2bc937142bafe7d891d09b", func := "lathe/lathelaw21.PruneAgain", spec := "pruneAgain", inPlace := ["internal/bytealg.IndexByteString"], unfollowed := true, recurses := true, apart := false }
def PruneAgainSaid : Prop := pruneAgainRow.holds Try.pinned (OpenSpec.ofChange pruneAgainSpec)

/-- ITS FALSE NEIGHBOUR: 'it returns false'. Refute it at one input. -/
def pruneAgainWrong : ChangeSpec := { name := "pruneAgain", fn := fun _ => fun
  | [d] => { results := [.lit (.bool false)], args := [d] }
  | _ => none }
def PruneAgainWrongFalsely : Prop := pruneAgainRow.holds Try.pinned (OpenSpec.ofChange pruneAgainWrong)

/-- 'lathelaw24.CodeEncodes': WHATEVER THE INPUT: true; the input reads as it did. -/
def codeEncodesSpec : ChangeSpec := { name := "codeEncodes", fn := fun _ => fun
  | [d] => { results := [.lit (.bool true)], args := [d] }
  | _ => none }
def codeEncodesRow : OpenClaim := { program := "ytmfheegkfakjdaa", sum := "f273a829ad5c4c06984ae6da161fad3e468650902b2bc937142bafe7d891d09b", func := "lathe/lathelaw24.CodeEncodes", spec := "codeEncodes", inPlace := ["internal/bytealg.IndexByteString"], unfollowed := true, recurses := true, apart := false }
def CodeEncodesSaid : Prop := codeEncodesRow.holds Try.pinned (OpenSpec.ofChange codeEncodesSpec)

/-- ITS FALSE NEIGHBOUR: 'it returns false'. Refute it at one input. -/
def codeEncodesWrong : ChangeSpec := { name := "codeEncodes", fn := fun _ => fun
  | [d] => { results := [.lit (.bool false)], args := [d] }
  | _ => none }
def CodeEncodesWrongFalsely : Prop := codeEncodesRow.holds Try.pinned (OpenSpec.ofChange codeEncodesWrong)

/-- 'lathelaw24.CodePrints': WHATEVER THE INPUT: true; the input reads as it did. -/
def codePrintsSpec : ChangeSpec := { name := "codePrints", fn := fun _ => fun
  | [d] => { results := [.lit (.bool true)], args := [d] }
  | _ => none }
def codePrintsRow : OpenClaim := { program := "ytmfheegkfakjdaa", sum := "f273a829ad5c4c06984ae6da161fad3e468650902b2bc937142bafe7d891d09b", func := "lathe/lathelaw24.CodePrints", spec := "codePrints", inPlace := ["internal/bytealg.IndexByteString"], unfollowed := true, recurses := true, apart := false }
def CodePrintsSaid : Prop := codePrintsRow.holds Try.pinned (OpenSpec.ofChange codePrintsSpec)

/-- ITS FALSE NEIGHBOUR: 'it returns false'. Refute it at one input. -/
def codePrintsWrong : ChangeSpec := { name := "codePrints", fn := fun _ => fun
  | [d] => { results := [.lit (.bool false)], args := [d] }
  | _ => none }
def CodePrintsWrongFalsely : Prop := codePrintsRow.holds Try.pinned (OpenSpec.ofChange codePrintsWrong)

/-- 'lathelaw24.CodeDecodes': WHATEVER THE INPUT: true; the input reads as it did. -/
def codeDecodesSpec : ChangeSpec := { name := "codeDecodes", fn := fun _ => fun
  | [d] => { results := [.lit (.bool true)], args := [d] }
  | _ => none }
def codeDecodesRow : OpenClaim := { program := "ytmfheegkfakjdaa", sum := "f273a829ad5c4c06984ae6da161fad3e468650902b2bc937142bafe7d891d09b", func := "lathe/lathelaw24.CodeDecodes", spec := "codeDecodes", inPlace := ["internal/bytealg.IndexByteString"], unfollowed := true, recurses := true, apart := false }
def CodeDecodesSaid : Prop := codeDecodesRow.holds Try.pinned (OpenSpec.ofChange codeDecodesSpec)

/-- ITS FALSE NEIGHBOUR: 'it returns false'. Refute it at one input. -/
def codeDecodesWrong : ChangeSpec := { name := "codeDecodes", fn := fun _ => fun
  | [d] => { results := [.lit (.bool false)], args := [d] }
  | _ => none }
def CodeDecodesWrongFalsely : Prop := codeDecodesRow.holds Try.pinned (OpenSpec.ofChange codeDecodesWrong)

/-- 'lathelaw24.CodeSealed': WHATEVER THE INPUT: true; the input reads as it did. -/
def codeSealedSpec : ChangeSpec := { name := "codeSealed", fn := fun _ => fun
  | [d1, d2] => { results := [.lit (.bool true)], args := [d1, d2] }
  | _ => none }
def codeSealedRow : OpenClaim := { program := "ytmfheegkfakjdaa", sum := "f273a829ad5c4c06984ae6da161fad3e468650902b2bc937142bafe7d891d09b", func := "lathe/lathelaw24.CodeSealed", spec := "codeSealed", inPlace := ["internal/bytealg.IndexByteString"], unfollowed := true, recurses := true, apart := false }
def CodeSealedSaid : Prop := codeSealedRow.holds Try.pinned (OpenSpec.ofChange codeSealedSpec)

/-- ITS FALSE NEIGHBOUR: 'it returns false'. Refute it at one input. -/
def codeSealedWrong : ChangeSpec := { name := "codeSealed", fn := fun _ => fun
  | [d1, d2] => { results := [.lit (.bool false)], args := [d1, d2] }
  | _ => none }
def CodeSealedWrongFalsely : Prop := codeSealedRow.holds Try.pinned (OpenSpec.ofChange codeSealedWrong)

/- THE SECOND FORM. 'bulk': how many values and letters a reading holds, each counted each time it is reached (what is shared counts as often as it is met; a slice's spare places count too). A statement '..UptoSaid' is the law's where the arguments, and the package variables that the reading takes, are together of bulk at most 1048576: NARROWER than '..Said'. Prove '..Said' where nothing that the law and all that it calls make is longer than what came in: it says more and counts as full. Else prove '..UptoSaid'. A law counts once. -/
mutual
def uptoBulk {H : Type} : DataW H → Nat
  | .lit (.string bytes) => bytes.length + 1
  | .lit _ => 1
  | .nil => 1
  | .ptr d => uptoBulk d + 1
  | .slice elems spare => uptoBulkAll elems + uptoBulkAll spare + 1
  | .agg parts => uptoBulkAll parts + 1
  | .iface _ d => uptoBulk d + 1
  | .map entries => uptoBulkEntries entries + 1
  | .held _ => 1
def uptoBulkAll {H : Type} : List (DataW H) → Nat
  | [] => 0
  | d :: r => uptoBulk d + uptoBulkAll r
def uptoBulkEntries {H : Type} : List (Lit × DataW H) → Nat
  | [] => 0
  | x :: r => uptoBulkEntry x + uptoBulkEntries r
def uptoBulkEntry {H : Type} : Lit × DataW H → Nat
  | (.string bytes, d) => bytes.length + uptoBulk d + 1
  | (_, d) => uptoBulk d + 1
 end
def uptoSmall : (H : Type) → List (DataW H) → Bool := fun _ ds => decide (uptoBulkAll ds ≤ 1048576)
def OpenSpec.upto (s : _root_.Go.ChangeSpec) : _root_.Go.OpenSpec := { _root_.Go.OpenSpec.ofChange s with cond := some uptoSmall }

/-- 'lathelaw21.PruneTakes', WHERE WHAT IT READS IS OF BULK AT MOST 1048576: true; the input reads as it did. -/
def pruneTakesUptoRow : OpenClaim := { program := "ytmfheegkfakjdaa", sum := "f273a829ad5c4c06984ae6da161fad3e468650902b2bc937142bafe7d891d09b", func := "lathe/lathelaw21.PruneTakes", spec := "pruneTakes", inPlace := ["internal/bytealg.IndexByteString"], unfollowed := true, recurses := true, apart := false, narrowed := true }
def PruneTakesUptoSaid : Prop := pruneTakesUptoRow.holds Try.pinned (OpenSpec.upto pruneTakesSpec)

/-- 'lathelaw21.PruneAgain', WHERE WHAT IT READS IS OF BULK AT MOST 1048576: true; the input reads as it did. -/
def pruneAgainUptoRow : OpenClaim := { program := "ytmfheegkfakjdaa", sum := "f273a829ad5c4c06984ae6da161fad3e468650902b2bc937142bafe7d891d09b", func := "lathe/lathelaw21.PruneAgain", spec := "pruneAgain", inPlace := ["internal/bytealg.IndexByteString"], unfollowed := true, recurses := true, apart := false, narrowed := true }
def PruneAgainUptoSaid : Prop := pruneAgainUptoRow.holds Try.pinned (OpenSpec.upto pruneAgainSpec)

/-- 'lathelaw24.CodeEncodes', WHERE WHAT IT READS IS OF BULK AT MOST 1048576: true; the input reads as it did. -/
def codeEncodesUptoRow : OpenClaim := { program := "ytmfheegkfakjdaa", sum := "f273a829ad5c4c06984ae6da161fad3e468650902b2bc937142bafe7d891d09b", func := "lathe/lathelaw24.CodeEncodes", spec := "codeEncodes", inPlace := ["internal/bytealg.IndexByteString"], unfollowed := true, recurses := true, apart := false, narrowed := true }
def CodeEncodesUptoSaid : Prop := codeEncodesUptoRow.holds Try.pinned (OpenSpec.upto codeEncodesSpec)

/-- 'lathelaw24.CodePrints', WHERE WHAT IT READS IS OF BULK AT MOST 1048576: true; the input reads as it did. -/
def codePrintsUptoRow : OpenClaim := { program := "ytmfheegkfakjdaa", sum := "f273a829ad5c4c06984ae6da161fad3e468650902b2bc937142bafe7d891d09b", func := "lathe/lathelaw24.CodePrints", spec := "codePrints", inPlace := ["internal/bytealg.IndexByteString"], unfollowed := true, recurses := true, apart := false, narrowed := true }
def CodePrintsUptoSaid : Prop := codePrintsUptoRow.holds Try.pinned (OpenSpec.upto codePrintsSpec)

/-- 'lathelaw24.CodeDecodes', WHERE WHAT IT READS IS OF BULK AT MOST 1048576: true; the input reads as it did. -/
def codeDecodesUptoRow : OpenClaim := { program := "ytmfheegkfakjdaa", sum := "f273a829ad5c4c06984ae6da161fad3e468650902b2bc937142bafe7d891d09b", func := "lathe/lathelaw24.CodeDecodes", spec := "codeDecodes", inPlace := ["internal/bytealg.IndexByteString"], unfollowed := true, recurses := true, apart := false, narrowed := true }
def CodeDecodesUptoSaid : Prop := codeDecodesUptoRow.holds Try.pinned (OpenSpec.upto codeDecodesSpec)

/-- 'lathelaw24.CodeSealed', WHERE WHAT IT READS IS OF BULK AT MOST 1048576: true; the input reads as it did. -/
def codeSealedUptoRow : OpenClaim := { program := "ytmfheegkfakjdaa", sum := "f273a829ad5c4c06984ae6da161fad3e468650902b2bc937142bafe7d891d09b", func := "lathe/lathelaw24.CodeSealed", spec := "codeSealed", inPlace := ["internal/bytealg.IndexByteString"], unfollowed := true, recurses := true, apart := false, narrowed := true }
def CodeSealedUptoSaid : Prop := codeSealedUptoRow.holds Try.pinned (OpenSpec.upto codeSealedSpec)

end Rows
end Go.Proofs.Ytmfheegkfakjdaa
