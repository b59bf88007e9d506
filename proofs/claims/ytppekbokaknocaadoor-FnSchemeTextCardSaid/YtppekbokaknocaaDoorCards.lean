/-
  DERIVED. GIVEN WITH THE SEED: THE CARDS: each row of YtppekbokaknocaaDoorRows.lean that lists a variable, with what it lists TIED to the program's text (the seventh form; the later family's looks); each row that meets fmt, with fmt's text TOLD by the authors' own Lean function (tested against real Go, not proved from fmt's source: count such statements apart). THE CARD IS WHAT COUNTS. Prove the row's statement (the work); the ties are given (YtppekbokaknocaaDoorTie.lean); close each card by the builder's one call (the guide's Derived/Test/ToyasCard.lean, 'card_holds'). Laid BY PROGRAM, IN A SANDBOX (cutbox-door.mjs). By AI agents, Wed Nov 11 2026. No macro, syntax, notation, axiom, sorry.
-/
import Derived.Test.YtppekbokaknocaaDoorRows
import GoSem.ClaimSeven
namespace Go.Proofs.YtppekbokaknocaaDoor
namespace Rows

/-- THE TIED CARD OF 'laws.FnExactParseScheme'. -/
def fnExactParseSchemeCard : Claim7 := { stood := { row := fnExactParseSchemeRow, standIns := [], harness := (true, "73a24c3f95b5679b91fab7cb08920b5c64418f95723d55d11a433ea54c464d59"), looks := false }, kinds := [], alts := [], laidByText := true, laidKinds := [.data, .pinned], laidTests := true, laidLooks := .later }
def FnExactParseSchemeCardSaid : Prop := Claim7.holds Tryd.pinned (.plain (OpenSpec.ofChange fnExactParseSchemeSpec)) fnExactParseSchemeCard

/-- THE TIED CARD OF 'laws.FnSchemeText'. -/
def fnSchemeTextCard : Claim7 := { stood := { row := fnSchemeTextRow, standIns := [], harness := (true, "73a24c3f95b5679b91fab7cb08920b5c64418f95723d55d11a433ea54c464d59"), looks := false }, kinds := [], alts := [], laidByText := true, laidKinds := [.data, .pinned], laidTests := true, laidLooks := .later }
def FnSchemeTextCardSaid : Prop := Claim7.holds Tryd.pinned (.plain (OpenSpec.ofChange fnSchemeTextSpec)) fnSchemeTextCard

/-- THE SECOND FORM's CARD OF 'laws.FnExactParseScheme'. -/
def fnExactParseSchemeUptoCard : Claim7 := { stood := { row := fnExactParseSchemeUptoRow, standIns := [], harness := (true, "73a24c3f95b5679b91fab7cb08920b5c64418f95723d55d11a433ea54c464d59"), looks := false }, kinds := [], alts := [], laidByText := true, laidKinds := [.data, .pinned], laidTests := true, laidLooks := .later }
def FnExactParseSchemeUptoCardSaid : Prop := Claim7.holds Tryd.pinned (.plain (OpenSpec.upto fnExactParseSchemeSpec)) fnExactParseSchemeUptoCard

/-- THE SECOND FORM's CARD OF 'laws.FnSchemeText'. -/
def fnSchemeTextUptoCard : Claim7 := { stood := { row := fnSchemeTextUptoRow, standIns := [], harness := (true, "73a24c3f95b5679b91fab7cb08920b5c64418f95723d55d11a433ea54c464d59"), looks := false }, kinds := [], alts := [], laidByText := true, laidKinds := [.data, .pinned], laidTests := true, laidLooks := .later }
def FnSchemeTextUptoCardSaid : Prop := Claim7.holds Tryd.pinned (.plain (OpenSpec.upto fnSchemeTextSpec)) fnSchemeTextUptoCard
end Rows
end Go.Proofs.YtppekbokaknocaaDoor
