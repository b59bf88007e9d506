/-
  DERIVED. GIVEN WITH THE SEED: THE CARDS: each row of YtfijcieponfcpaaGreatDoorRows.lean that lists a variable, with what it lists TIED to the program's text (the seventh form; the later family's looks); each row that meets fmt, with fmt's text TOLD by the authors' own Lean function (tested against real Go, not proved from fmt's source: count such statements apart). THE CARD IS WHAT COUNTS. Prove the row's statement (the work); the ties are given (YtfijcieponfcpaaGreatDoorTie.lean); close each card by the builder's one call (the guide's Derived/Test/ToyasCard.lean, 'card_holds'). Laid BY PROGRAM, IN A SANDBOX (cutbox-door.mjs). By AI agents, Wed Nov 11 2026. No macro, syntax, notation, axiom, sorry.
-/
import Derived.Test.YtfijcieponfcpaaGreatDoorRows
import GoSem.ClaimSeven
namespace Go.Proofs.YtfijcieponfcpaaGreatDoor
namespace Rows

/-- THE TIED CARD OF 'laws.FnExactKnownPair'. -/
def fnExactKnownPairCard : Claim7 := { stood := { row := fnExactKnownPairRow, standIns := [], harness := (true, "9aeb69fae4d3117eeeb770674d225acd5262c1d1636f660ed212a959609ca50a"), looks := false }, kinds := [], alts := [], laidByText := true, laidKinds := [.data, .pinned], laidTests := true, laidLooks := .later }
def FnExactKnownPairCardSaid : Prop := Claim7.holds Tryz.pinned (.plain (OpenSpec.ofChange fnExactKnownPairSpec)) fnExactKnownPairCard

/-- THE SECOND FORM's CARD OF 'laws.FnExactKnownPair'. -/
def fnExactKnownPairUptoCard : Claim7 := { stood := { row := fnExactKnownPairUptoRow, standIns := [], harness := (true, "9aeb69fae4d3117eeeb770674d225acd5262c1d1636f660ed212a959609ca50a"), looks := false }, kinds := [], alts := [], laidByText := true, laidKinds := [.data, .pinned], laidTests := true, laidLooks := .later }
def FnExactKnownPairUptoCardSaid : Prop := Claim7.holds Tryz.pinned (.plain (OpenSpec.upto fnExactKnownPairSpec)) fnExactKnownPairUptoCard
end Rows
end Go.Proofs.YtfijcieponfcpaaGreatDoor
