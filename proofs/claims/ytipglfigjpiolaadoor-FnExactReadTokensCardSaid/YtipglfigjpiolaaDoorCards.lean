/-
  DERIVED. GIVEN WITH THE SEED: THE CARDS: each row of YtipglfigjpiolaaDoorRows.lean that lists a variable, with what it lists TIED to the program's text (the seventh form; the later family's looks); each row that meets fmt, with fmt's text TOLD by the authors' own Lean function (tested against real Go, not proved from fmt's source: count such statements apart). THE CARD IS WHAT COUNTS. Prove the row's statement (the work); the ties are given (YtipglfigjpiolaaDoorTie.lean); close each card by the builder's one call (the guide's Derived/Test/ToyasCard.lean, 'card_holds'). Laid BY PROGRAM, IN A SANDBOX (cutbox-door.mjs). By AI agents, Wed Nov 11 2026. No macro, syntax, notation, axiom, sorry.
-/
import Derived.Test.YtipglfigjpiolaaDoorRows
import GoSem.ClaimSeven
namespace Go.Proofs.YtipglfigjpiolaaDoor
namespace Rows

/-- THE TIED CARD OF 'laws.FnExactReadTokens'. -/
def fnExactReadTokensCard : Claim7 := { stood := { row := fnExactReadTokensRow, standIns := [], harness := (true, "17a7569f3495a38fb11e903cf945238382e7436b159ca311eff7c6d3d4d15205"), looks := true }, kinds := [], alts := [], laidByText := true, laidKinds := [.data, .data, .data, .data, .sentinel, .sentinel, .pinned], laidTests := true, laidLooks := .later }
def FnExactReadTokensCardSaid : Prop := Claim7.holds Tryd.pinned (.plain (OpenSpec.ofChange fnExactReadTokensSpec)) fnExactReadTokensCard

/-- THE SECOND FORM's CARD OF 'laws.FnExactReadTokens'. -/
def fnExactReadTokensUptoCard : Claim7 := { stood := { row := fnExactReadTokensUptoRow, standIns := [], harness := (true, "17a7569f3495a38fb11e903cf945238382e7436b159ca311eff7c6d3d4d15205"), looks := true }, kinds := [], alts := [], laidByText := true, laidKinds := [.data, .data, .data, .data, .sentinel, .sentinel, .pinned], laidTests := true, laidLooks := .later }
def FnExactReadTokensUptoCardSaid : Prop := Claim7.holds Tryd.pinned (.plain (OpenSpec.upto fnExactReadTokensSpec)) fnExactReadTokensUptoCard
end Rows
end Go.Proofs.YtipglfigjpiolaaDoor
