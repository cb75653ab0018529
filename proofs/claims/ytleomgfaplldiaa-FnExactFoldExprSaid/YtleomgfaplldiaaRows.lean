/-
  No cell of these rows narrows 'for every input' (looked for: loops, veiled, ifaces, maps, wideKeys, modest, calm, conditions, laid).
  DERIVED. THE GIVEN ROWS OF THIS SEAT. 10 by the template 'for every input the law returns true; each argument reads behind the call as it read before'; 0 by the template 'total and deterministic' (their statements: YtleomgfaplldiaaTotals.lean).
  GIVEN WITH THE SEED: the statements are not yours to turn. If you find one false, say at which input.
  Laid BY PROGRAM, IN A SANDBOX (cutbox-rows.mjs): the forced cells as the released guide's own fill.sh prints them over the translation 83204c7db6390dae… (all of the seat's roots in one cut). By AI agents, Wed Nov 11 2026. No macro, syntax, notation, axiom, sorry.
-/
import Derived.Test.YtleomgfaplldiaaChecked
import GoSem.Claim
import GoSem.ClaimJoined
import GoSem.ClaimMapViews
import Derived.JoinedTies
import Derived.KernelRfl
namespace Go.Proofs.Ytleomgfaplldiaa
/- THE CELL 'sum', in the pinned program and in every row, IS THE sha256 OF THE DUMP (.gsa) THAT YtleomgfaplldiaaProg.lean LOADS. Nothing in Lean hashes anything: it is a label: what it is worth is what the hold of that sum in a sandbox is worth. -/
noncomputable def Try.pinned : Pinned := { name := "ytleomgfaplldiaa", sum := "83204c7db6390daeed577cb48cdcb7fe5a6b7111bafae6c586430a66ec56c8f2", checked := Try.checked }
namespace Rows
def none {H : Type} : Left H := { results := [], args := [] }

/-- 'laws.FnExactLineUp': WHATEVER THE INPUT: true; the input reads as it did. -/
def fnExactLineUpSpec : ChangeSpec := { name := "fnExactLineUp", fn := fun _ => fun
  | [d1, d2] => { results := [.lit (.bool true)], args := [d1, d2] }
  | _ => none }
def fnExactLineUpRow : OpenClaim := { program := "ytleomgfaplldiaa", sum := "83204c7db6390daeed577cb48cdcb7fe5a6b7111bafae6c586430a66ec56c8f2", func := "loop.example/g00837/laws.FnExactLineUp", spec := "fnExactLineUp", apart := false }
def FnExactLineUpSaid : Prop := fnExactLineUpRow.holds Try.pinned (OpenSpec.ofChange fnExactLineUpSpec)

/-- ITS FALSE NEIGHBOUR: 'it returns false'. Refute it at one input. -/
def fnExactLineUpWrong : ChangeSpec := { name := "fnExactLineUp", fn := fun _ => fun
  | [d1, d2] => { results := [.lit (.bool false)], args := [d1, d2] }
  | _ => none }
def FnExactLineUpWrongFalsely : Prop := fnExactLineUpRow.holds Try.pinned (OpenSpec.ofChange fnExactLineUpWrong)

/-- 'laws.FnExactGoodSeen': WHATEVER THE INPUT: true; the input reads as it did. -/
def fnExactGoodSeenSpec : ChangeSpec := { name := "fnExactGoodSeen", fn := fun _ => fun
  | [d] => { results := [.lit (.bool true)], args := [d] }
  | _ => none }
def fnExactGoodSeenRow : OpenClaim := { program := "ytleomgfaplldiaa", sum := "83204c7db6390daeed577cb48cdcb7fe5a6b7111bafae6c586430a66ec56c8f2", func := "loop.example/g00837/laws.FnExactGoodSeen", spec := "fnExactGoodSeen", unfollowed := true, recurses := true, apart := false }
def FnExactGoodSeenSaid : Prop := fnExactGoodSeenRow.holds Try.pinned (OpenSpec.ofChange fnExactGoodSeenSpec)

/-- ITS FALSE NEIGHBOUR: 'it returns false'. Refute it at one input. -/
def fnExactGoodSeenWrong : ChangeSpec := { name := "fnExactGoodSeen", fn := fun _ => fun
  | [d] => { results := [.lit (.bool false)], args := [d] }
  | _ => none }
def FnExactGoodSeenWrongFalsely : Prop := fnExactGoodSeenRow.holds Try.pinned (OpenSpec.ofChange fnExactGoodSeenWrong)

/-- 'laws.FnExactBaseTypes': WHATEVER THE INPUT: true; the input reads as it did. -/
def fnExactBaseTypesSpec : ChangeSpec := { name := "fnExactBaseTypes", fn := fun _ => fun
  | [] => { results := [.lit (.bool true)], args := [] }
  | _ => none }
def fnExactBaseTypesRow : OpenClaim := { program := "ytleomgfaplldiaa", sum := "83204c7db6390daeed577cb48cdcb7fe5a6b7111bafae6c586430a66ec56c8f2", func := "loop.example/g00837/laws.FnExactBaseTypes", spec := "fnExactBaseTypes", apart := false }
def FnExactBaseTypesSaid : Prop := fnExactBaseTypesRow.holds Try.pinned (OpenSpec.ofChange fnExactBaseTypesSpec)

/-- ITS FALSE NEIGHBOUR: 'it returns false'. Refute it at one input. -/
def fnExactBaseTypesWrong : ChangeSpec := { name := "fnExactBaseTypes", fn := fun _ => fun
  | [] => { results := [.lit (.bool false)], args := [] }
  | _ => none }
def FnExactBaseTypesWrongFalsely : Prop := fnExactBaseTypesRow.holds Try.pinned (OpenSpec.ofChange fnExactBaseTypesWrong)

/-- 'laws.FnExactTurnDiff': WHATEVER THE INPUT: true; the input reads as it did. -/
def fnExactTurnDiffSpec : ChangeSpec := { name := "fnExactTurnDiff", fn := fun _ => fun
  | [d] => { results := [.lit (.bool true)], args := [d] }
  | _ => none }
def fnExactTurnDiffRow : OpenClaim := { program := "ytleomgfaplldiaa", sum := "83204c7db6390daeed577cb48cdcb7fe5a6b7111bafae6c586430a66ec56c8f2", func := "loop.example/g00837/laws.FnExactTurnDiff", spec := "fnExactTurnDiff", apart := false }
def FnExactTurnDiffSaid : Prop := fnExactTurnDiffRow.holds Try.pinned (OpenSpec.ofChange fnExactTurnDiffSpec)

/-- ITS FALSE NEIGHBOUR: 'it returns false'. Refute it at one input. -/
def fnExactTurnDiffWrong : ChangeSpec := { name := "fnExactTurnDiff", fn := fun _ => fun
  | [d] => { results := [.lit (.bool false)], args := [d] }
  | _ => none }
def FnExactTurnDiffWrongFalsely : Prop := fnExactTurnDiffRow.holds Try.pinned (OpenSpec.ofChange fnExactTurnDiffWrong)

/-- 'laws.FnExactSeenBytes': WHATEVER THE INPUT: true; the input reads as it did. -/
def fnExactSeenBytesSpec : ChangeSpec := { name := "fnExactSeenBytes", fn := fun _ => fun
  | [d] => { results := [.lit (.bool true)], args := [d] }
  | _ => none }
def fnExactSeenBytesRow : OpenClaim := { program := "ytleomgfaplldiaa", sum := "83204c7db6390daeed577cb48cdcb7fe5a6b7111bafae6c586430a66ec56c8f2", func := "loop.example/g00837/laws.FnExactSeenBytes", spec := "fnExactSeenBytes", unfollowed := true, recurses := true, apart := false }
def FnExactSeenBytesSaid : Prop := fnExactSeenBytesRow.holds Try.pinned (OpenSpec.ofChange fnExactSeenBytesSpec)

/-- ITS FALSE NEIGHBOUR: 'it returns false'. Refute it at one input. -/
def fnExactSeenBytesWrong : ChangeSpec := { name := "fnExactSeenBytes", fn := fun _ => fun
  | [d] => { results := [.lit (.bool false)], args := [d] }
  | _ => none }
def FnExactSeenBytesWrongFalsely : Prop := fnExactSeenBytesRow.holds Try.pinned (OpenSpec.ofChange fnExactSeenBytesWrong)

/-- 'laws.FnExactDiffText': WHATEVER THE INPUT: true; the input reads as it did. -/
def fnExactDiffTextSpec : ChangeSpec := { name := "fnExactDiffText", fn := fun _ => fun
  | [d] => { results := [.lit (.bool true)], args := [d] }
  | _ => none }
def fnExactDiffTextRow : OpenClaim := { program := "ytleomgfaplldiaa", sum := "83204c7db6390daeed577cb48cdcb7fe5a6b7111bafae6c586430a66ec56c8f2", func := "loop.example/g00837/laws.FnExactDiffText", spec := "fnExactDiffText", inPlace := ["internal/abi.NoEscape", "internal/bytealg.MakeNoZero"], apart := false }
def FnExactDiffTextSaid : Prop := fnExactDiffTextRow.holds Try.pinned (OpenSpec.ofChange fnExactDiffTextSpec)

/-- ITS FALSE NEIGHBOUR: 'it returns false'. Refute it at one input. -/
def fnExactDiffTextWrong : ChangeSpec := { name := "fnExactDiffText", fn := fun _ => fun
  | [d] => { results := [.lit (.bool false)], args := [d] }
  | _ => none }
def FnExactDiffTextWrongFalsely : Prop := fnExactDiffTextRow.holds Try.pinned (OpenSpec.ofChange fnExactDiffTextWrong)

/-- 'laws.FnExactNamesIn': WHATEVER THE INPUT: true; the input reads as it did. -/
def fnExactNamesInSpec : ChangeSpec := { name := "fnExactNamesIn", fn := fun _ => fun
  | [d] => { results := [.lit (.bool true)], args := [d] }
  | _ => none }
def fnExactNamesInRow : OpenClaim := { program := "ytleomgfaplldiaa", sum := "83204c7db6390daeed577cb48cdcb7fe5a6b7111bafae6c586430a66ec56c8f2", func := "loop.example/g00837/laws.FnExactNamesIn", spec := "fnExactNamesIn", apart := false }
def FnExactNamesInSaid : Prop := fnExactNamesInRow.holds Try.pinned (OpenSpec.ofChange fnExactNamesInSpec)

/-- ITS FALSE NEIGHBOUR: 'it returns false'. Refute it at one input. -/
def fnExactNamesInWrong : ChangeSpec := { name := "fnExactNamesIn", fn := fun _ => fun
  | [d] => { results := [.lit (.bool false)], args := [d] }
  | _ => none }
def FnExactNamesInWrongFalsely : Prop := fnExactNamesInRow.holds Try.pinned (OpenSpec.ofChange fnExactNamesInWrong)

/-- 'laws.FnExactTouchedBy': WHATEVER THE INPUT: true; the input reads as it did. -/
def fnExactTouchedBySpec : ChangeSpec := { name := "fnExactTouchedBy", fn := fun _ => fun
  | [d1, d2, d3] => { results := [.lit (.bool true)], args := [d1, d2, d3] }
  | _ => none }
def fnExactTouchedByRow : OpenClaim := { program := "ytleomgfaplldiaa", sum := "83204c7db6390daeed577cb48cdcb7fe5a6b7111bafae6c586430a66ec56c8f2", func := "loop.example/g00837/laws.FnExactTouchedBy", spec := "fnExactTouchedBy", unfollowed := true, recurses := true, apart := false }
def FnExactTouchedBySaid : Prop := fnExactTouchedByRow.holds Try.pinned (OpenSpec.ofChange fnExactTouchedBySpec)

/-- ITS FALSE NEIGHBOUR: 'it returns false'. Refute it at one input. -/
def fnExactTouchedByWrong : ChangeSpec := { name := "fnExactTouchedBy", fn := fun _ => fun
  | [d1, d2, d3] => { results := [.lit (.bool false)], args := [d1, d2, d3] }
  | _ => none }
def FnExactTouchedByWrongFalsely : Prop := fnExactTouchedByRow.holds Try.pinned (OpenSpec.ofChange fnExactTouchedByWrong)

/-- 'laws.FnExactReadSeen': WHATEVER THE INPUT: true; the input reads as it did. -/
def fnExactReadSeenSpec : ChangeSpec := { name := "fnExactReadSeen", fn := fun _ => fun
  | [d] => { results := [.lit (.bool true)], args := [d] }
  | _ => none }
def fnExactReadSeenRow : OpenClaim := { program := "ytleomgfaplldiaa", sum := "83204c7db6390daeed577cb48cdcb7fe5a6b7111bafae6c586430a66ec56c8f2", func := "loop.example/g00837/laws.FnExactReadSeen", spec := "fnExactReadSeen", unfollowed := true, recurses := true, apart := false }
def FnExactReadSeenSaid : Prop := fnExactReadSeenRow.holds Try.pinned (OpenSpec.ofChange fnExactReadSeenSpec)

/-- ITS FALSE NEIGHBOUR: 'it returns false'. Refute it at one input. -/
def fnExactReadSeenWrong : ChangeSpec := { name := "fnExactReadSeen", fn := fun _ => fun
  | [d] => { results := [.lit (.bool false)], args := [d] }
  | _ => none }
def FnExactReadSeenWrongFalsely : Prop := fnExactReadSeenRow.holds Try.pinned (OpenSpec.ofChange fnExactReadSeenWrong)

/-- 'laws.FnExactFoldExpr': WHATEVER THE INPUT: true; the input reads as it did. -/
def fnExactFoldExprSpec : ChangeSpec := { name := "fnExactFoldExpr", fn := fun _ => fun
  | [d1, d2] => { results := [.lit (.bool true)], args := [d1, d2] }
  | _ => none }
def fnExactFoldExprRow : OpenClaim := { program := "ytleomgfaplldiaa", sum := "83204c7db6390daeed577cb48cdcb7fe5a6b7111bafae6c586430a66ec56c8f2", func := "loop.example/g00837/laws.FnExactFoldExpr", spec := "fnExactFoldExpr", unfollowed := true, recurses := true, apart := false }
def FnExactFoldExprSaid : Prop := fnExactFoldExprRow.holds Try.pinned (OpenSpec.ofChange fnExactFoldExprSpec)

/-- ITS FALSE NEIGHBOUR: 'it returns false'. Refute it at one input. -/
def fnExactFoldExprWrong : ChangeSpec := { name := "fnExactFoldExpr", fn := fun _ => fun
  | [d1, d2] => { results := [.lit (.bool false)], args := [d1, d2] }
  | _ => none }
def FnExactFoldExprWrongFalsely : Prop := fnExactFoldExprRow.holds Try.pinned (OpenSpec.ofChange fnExactFoldExprWrong)

/- THE SECOND FORM. 'bulk': how many values and letters a reading holds, each counted each time it is reached (what is shared counts as often as it is met; a slice's spare places count too). A statement '..UptoSaid' is the law's where the arguments, and the package variables that the reading takes, are together of bulk at most 1048576: NARROWER than '..Said'. Prove '..Said' where nothing that the law and all that it calls make is longer than what came in: it says more and counts as full. Else prove '..UptoSaid'. A law counts once. -/
mutual
def uptoBulk {H : Type} : DataW H → Nat
  | .lit (.string bytes) => bytes.length + 1
  | .lit _ => 1
  | .nil => 1
  | .ptr d => uptoBulk d + 1
  | .slice elems spare => uptoBulkAll elems + uptoBulkAll spare + 1
  | .agg parts => uptoBulkAll parts + 1
  | .iface _ d => uptoBulk d + 1
  | .map entries => uptoBulkEntries entries + 1
  | .held _ => 1
def uptoBulkAll {H : Type} : List (DataW H) → Nat
  | [] => 0
  | d :: r => uptoBulk d + uptoBulkAll r
def uptoBulkEntries {H : Type} : List (Lit × DataW H) → Nat
  | [] => 0
  | x :: r => uptoBulkEntry x + uptoBulkEntries r
def uptoBulkEntry {H : Type} : Lit × DataW H → Nat
  | (.string bytes, d) => bytes.length + uptoBulk d + 1
  | (_, d) => uptoBulk d + 1
 end
def uptoSmall : (H : Type) → List (DataW H) → Bool := fun _ ds => decide (uptoBulkAll ds ≤ 1048576)
def OpenSpec.upto (s : _root_.Go.ChangeSpec) : _root_.Go.OpenSpec := { _root_.Go.OpenSpec.ofChange s with cond := some uptoSmall }

/-- 'laws.FnExactLineUp', WHERE WHAT IT READS IS OF BULK AT MOST 1048576: true; the input reads as it did. -/
def fnExactLineUpUptoRow : OpenClaim := { program := "ytleomgfaplldiaa", sum := "83204c7db6390daeed577cb48cdcb7fe5a6b7111bafae6c586430a66ec56c8f2", func := "loop.example/g00837/laws.FnExactLineUp", spec := "fnExactLineUp", apart := false, narrowed := true }
def FnExactLineUpUptoSaid : Prop := fnExactLineUpUptoRow.holds Try.pinned (OpenSpec.upto fnExactLineUpSpec)

/-- 'laws.FnExactGoodSeen', WHERE WHAT IT READS IS OF BULK AT MOST 1048576: true; the input reads as it did. -/
def fnExactGoodSeenUptoRow : OpenClaim := { program := "ytleomgfaplldiaa", sum := "83204c7db6390daeed577cb48cdcb7fe5a6b7111bafae6c586430a66ec56c8f2", func := "loop.example/g00837/laws.FnExactGoodSeen", spec := "fnExactGoodSeen", unfollowed := true, recurses := true, apart := false, narrowed := true }
def FnExactGoodSeenUptoSaid : Prop := fnExactGoodSeenUptoRow.holds Try.pinned (OpenSpec.upto fnExactGoodSeenSpec)

/-- 'laws.FnExactBaseTypes', WHERE WHAT IT READS IS OF BULK AT MOST 1048576: true; the input reads as it did. -/
def fnExactBaseTypesUptoRow : OpenClaim := { program := "ytleomgfaplldiaa", sum := "83204c7db6390daeed577cb48cdcb7fe5a6b7111bafae6c586430a66ec56c8f2", func := "loop.example/g00837/laws.FnExactBaseTypes", spec := "fnExactBaseTypes", apart := false, narrowed := true }
def FnExactBaseTypesUptoSaid : Prop := fnExactBaseTypesUptoRow.holds Try.pinned (OpenSpec.upto fnExactBaseTypesSpec)

/-- 'laws.FnExactTurnDiff', WHERE WHAT IT READS IS OF BULK AT MOST 1048576: true; the input reads as it did. -/
def fnExactTurnDiffUptoRow : OpenClaim := { program := "ytleomgfaplldiaa", sum := "83204c7db6390daeed577cb48cdcb7fe5a6b7111bafae6c586430a66ec56c8f2", func := "loop.example/g00837/laws.FnExactTurnDiff", spec := "fnExactTurnDiff", apart := false, narrowed := true }
def FnExactTurnDiffUptoSaid : Prop := fnExactTurnDiffUptoRow.holds Try.pinned (OpenSpec.upto fnExactTurnDiffSpec)

/-- 'laws.FnExactSeenBytes', WHERE WHAT IT READS IS OF BULK AT MOST 1048576: true; the input reads as it did. -/
def fnExactSeenBytesUptoRow : OpenClaim := { program := "ytleomgfaplldiaa", sum := "83204c7db6390daeed577cb48cdcb7fe5a6b7111bafae6c586430a66ec56c8f2", func := "loop.example/g00837/laws.FnExactSeenBytes", spec := "fnExactSeenBytes", unfollowed := true, recurses := true, apart := false, narrowed := true }
def FnExactSeenBytesUptoSaid : Prop := fnExactSeenBytesUptoRow.holds Try.pinned (OpenSpec.upto fnExactSeenBytesSpec)

/-- 'laws.FnExactDiffText', WHERE WHAT IT READS IS OF BULK AT MOST 1048576: true; the input reads as it did. -/
def fnExactDiffTextUptoRow : OpenClaim := { program := "ytleomgfaplldiaa", sum := "83204c7db6390daeed577cb48cdcb7fe5a6b7111bafae6c586430a66ec56c8f2", func := "loop.example/g00837/laws.FnExactDiffText", spec := "fnExactDiffText", inPlace := ["internal/abi.NoEscape", "internal/bytealg.MakeNoZero"], apart := false, narrowed := true }
def FnExactDiffTextUptoSaid : Prop := fnExactDiffTextUptoRow.holds Try.pinned (OpenSpec.upto fnExactDiffTextSpec)

/-- 'laws.FnExactNamesIn', WHERE WHAT IT READS IS OF BULK AT MOST 1048576: true; the input reads as it did. -/
def fnExactNamesInUptoRow : OpenClaim := { program := "ytleomgfaplldiaa", sum := "83204c7db6390daeed577cb48cdcb7fe5a6b7111bafae6c586430a66ec56c8f2", func := "loop.example/g00837/laws.FnExactNamesIn", spec := "fnExactNamesIn", apart := false, narrowed := true }
def FnExactNamesInUptoSaid : Prop := fnExactNamesInUptoRow.holds Try.pinned (OpenSpec.upto fnExactNamesInSpec)

/-- 'laws.FnExactTouchedBy', WHERE WHAT IT READS IS OF BULK AT MOST 1048576: true; the input reads as it did. -/
def fnExactTouchedByUptoRow : OpenClaim := { program := "ytleomgfaplldiaa", sum := "83204c7db6390daeed577cb48cdcb7fe5a6b7111bafae6c586430a66ec56c8f2", func := "loop.example/g00837/laws.FnExactTouchedBy", spec := "fnExactTouchedBy", unfollowed := true, recurses := true, apart := false, narrowed := true }
def FnExactTouchedByUptoSaid : Prop := fnExactTouchedByUptoRow.holds Try.pinned (OpenSpec.upto fnExactTouchedBySpec)

/-- 'laws.FnExactReadSeen', WHERE WHAT IT READS IS OF BULK AT MOST 1048576: true; the input reads as it did. -/
def fnExactReadSeenUptoRow : OpenClaim := { program := "ytleomgfaplldiaa", sum := "83204c7db6390daeed577cb48cdcb7fe5a6b7111bafae6c586430a66ec56c8f2", func := "loop.example/g00837/laws.FnExactReadSeen", spec := "fnExactReadSeen", unfollowed := true, recurses := true, apart := false, narrowed := true }
def FnExactReadSeenUptoSaid : Prop := fnExactReadSeenUptoRow.holds Try.pinned (OpenSpec.upto fnExactReadSeenSpec)

/-- 'laws.FnExactFoldExpr', WHERE WHAT IT READS IS OF BULK AT MOST 1048576: true; the input reads as it did. -/
def fnExactFoldExprUptoRow : OpenClaim := { program := "ytleomgfaplldiaa", sum := "83204c7db6390daeed577cb48cdcb7fe5a6b7111bafae6c586430a66ec56c8f2", func := "loop.example/g00837/laws.FnExactFoldExpr", spec := "fnExactFoldExpr", unfollowed := true, recurses := true, apart := false, narrowed := true }
def FnExactFoldExprUptoSaid : Prop := fnExactFoldExprUptoRow.holds Try.pinned (OpenSpec.upto fnExactFoldExprSpec)

end Rows
end Go.Proofs.Ytleomgfaplldiaa
