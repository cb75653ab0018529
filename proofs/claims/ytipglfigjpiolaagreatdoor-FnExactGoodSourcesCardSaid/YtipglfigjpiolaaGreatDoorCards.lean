/-
  DERIVED. GIVEN WITH THE SEED: THE CARDS: each row of YtipglfigjpiolaaGreatDoorRows.lean that lists a variable, with what it lists TIED to the program's text (the seventh form; the later family's looks); each row that meets fmt, with fmt's text TOLD by the authors' own Lean function (tested against real Go, not proved from fmt's source: count such statements apart). THE CARD IS WHAT COUNTS. Prove the row's statement (the work); the ties are given (YtipglfigjpiolaaGreatDoorTie.lean); close each card by the builder's one call (the guide's Derived/Test/ToyasCard.lean, 'card_holds'). Laid BY PROGRAM, IN A SANDBOX (cutbox-door.mjs). By AI agents, Wed Nov 11 2026. No macro, syntax, notation, axiom, sorry.
-/
import Derived.Test.YtipglfigjpiolaaGreatDoorRows
import GoSem.ClaimSeven
namespace Go.Proofs.YtipglfigjpiolaaGreatDoor
namespace Rows

/-- THE TIED CARD OF 'laws.FnExactImportsIn'. -/
def fnExactImportsInCard : Claim7 := { stood := { row := fnExactImportsInRow, standIns := [], harness := (true, "ab54eecc5550350e083c113a1bd6a38134c4e8a0abcb4f614a20fa86dade66ba"), looks := true }, kinds := [], alts := [], laidByText := true, laidKinds := [.data, .data, .data, .data, .sentinel, .sentinel, .pinned], laidTests := true, laidLooks := .later }
def FnExactImportsInCardSaid : Prop := Claim7.holds Tryz.pinned (.plain (OpenSpec.ofChange fnExactImportsInSpec)) fnExactImportsInCard

/-- THE TIED CARD OF 'laws.FnExactGoodSources'. -/
def fnExactGoodSourcesCard : Claim7 := { stood := { row := fnExactGoodSourcesRow, standIns := [], harness := (true, "ab54eecc5550350e083c113a1bd6a38134c4e8a0abcb4f614a20fa86dade66ba"), looks := true }, kinds := [], alts := [], laidByText := true, laidKinds := [.data, .data, .data, .data, .sentinel, .sentinel, .pinned], laidTests := true, laidLooks := .later }
def FnExactGoodSourcesCardSaid : Prop := Claim7.holds Tryz.pinned (.plain (OpenSpec.ofChange fnExactGoodSourcesSpec)) fnExactGoodSourcesCard

/-- THE SECOND FORM's CARD OF 'laws.FnExactImportsIn'. -/
def fnExactImportsInUptoCard : Claim7 := { stood := { row := fnExactImportsInUptoRow, standIns := [], harness := (true, "ab54eecc5550350e083c113a1bd6a38134c4e8a0abcb4f614a20fa86dade66ba"), looks := true }, kinds := [], alts := [], laidByText := true, laidKinds := [.data, .data, .data, .data, .sentinel, .sentinel, .pinned], laidTests := true, laidLooks := .later }
def FnExactImportsInUptoCardSaid : Prop := Claim7.holds Tryz.pinned (.plain (OpenSpec.upto fnExactImportsInSpec)) fnExactImportsInUptoCard

/-- THE SECOND FORM's CARD OF 'laws.FnExactGoodSources'. -/
def fnExactGoodSourcesUptoCard : Claim7 := { stood := { row := fnExactGoodSourcesUptoRow, standIns := [], harness := (true, "ab54eecc5550350e083c113a1bd6a38134c4e8a0abcb4f614a20fa86dade66ba"), looks := true }, kinds := [], alts := [], laidByText := true, laidKinds := [.data, .data, .data, .data, .sentinel, .sentinel, .pinned], laidTests := true, laidLooks := .later }
def FnExactGoodSourcesUptoCardSaid : Prop := Claim7.holds Tryz.pinned (.plain (OpenSpec.upto fnExactGoodSourcesSpec)) fnExactGoodSourcesUptoCard
end Rows
end Go.Proofs.YtipglfigjpiolaaGreatDoor
