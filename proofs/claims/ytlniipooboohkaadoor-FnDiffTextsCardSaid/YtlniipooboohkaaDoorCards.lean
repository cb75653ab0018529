/-
  DERIVED. GIVEN WITH THE SEED: THE CARDS: each row of YtlniipooboohkaaDoorRows.lean that lists a variable, with what it lists TIED to the program's text (the seventh form; the later family's looks); each row that meets fmt, with fmt's text TOLD by the authors' own Lean function (tested against real Go, not proved from fmt's source: count such statements apart). THE CARD IS WHAT COUNTS. Prove the row's statement (the work); the ties are given (YtlniipooboohkaaDoorTie.lean); close each card by the builder's one call (the guide's Derived/Test/ToyasCard.lean, 'card_holds'). Laid BY PROGRAM, IN A SANDBOX (cutbox-door.mjs). By AI agents, Wed Nov 11 2026. No macro, syntax, notation, axiom, sorry.
-/
import Derived.Test.YtlniipooboohkaaDoorRows
import GoSem.ClaimSeven
namespace Go.Proofs.YtlniipooboohkaaDoor
namespace Rows

/-- THE TIED CARD OF 'laws.FnExactReadDiff'. -/
def fnExactReadDiffCard : Claim7 := { stood := { row := fnExactReadDiffRow, standIns := [], harness := (true, "ac16b404fa9faa05f0f889ae5790caaf3f4d15f31ff4ad05f413cdb79882d156"), looks := false }, kinds := [], alts := [], laidByText := true, laidKinds := [.listed, .data], laidTests := true, laidLooks := .later }
def FnExactReadDiffCardSaid : Prop := Claim7.holds Tryd.pinned (.plain (OpenSpec.ofChange fnExactReadDiffSpec)) fnExactReadDiffCard

/-- THE TIED CARD OF 'laws.FnDiffTexts'. -/
def fnDiffTextsCard : Claim7 := { stood := { row := fnDiffTextsRow, standIns := [], harness := (true, "ac16b404fa9faa05f0f889ae5790caaf3f4d15f31ff4ad05f413cdb79882d156"), looks := false }, kinds := [], alts := [], laidByText := true, laidKinds := [.listed, .data], laidTests := true, laidLooks := .later }
def FnDiffTextsCardSaid : Prop := Claim7.holds Tryd.pinned (.plain (OpenSpec.ofChange fnDiffTextsSpec)) fnDiffTextsCard

/-- THE SECOND FORM's CARD OF 'laws.FnExactReadDiff'. -/
def fnExactReadDiffUptoCard : Claim7 := { stood := { row := fnExactReadDiffUptoRow, standIns := [], harness := (true, "ac16b404fa9faa05f0f889ae5790caaf3f4d15f31ff4ad05f413cdb79882d156"), looks := false }, kinds := [], alts := [], laidByText := true, laidKinds := [.listed, .data], laidTests := true, laidLooks := .later }
def FnExactReadDiffUptoCardSaid : Prop := Claim7.holds Tryd.pinned (.plain (OpenSpec.upto fnExactReadDiffSpec)) fnExactReadDiffUptoCard

/-- THE SECOND FORM's CARD OF 'laws.FnDiffTexts'. -/
def fnDiffTextsUptoCard : Claim7 := { stood := { row := fnDiffTextsUptoRow, standIns := [], harness := (true, "ac16b404fa9faa05f0f889ae5790caaf3f4d15f31ff4ad05f413cdb79882d156"), looks := false }, kinds := [], alts := [], laidByText := true, laidKinds := [.listed, .data], laidTests := true, laidLooks := .later }
def FnDiffTextsUptoCardSaid : Prop := Claim7.holds Tryd.pinned (.plain (OpenSpec.upto fnDiffTextsSpec)) fnDiffTextsUptoCard
end Rows
end Go.Proofs.YtlniipooboohkaaDoor
