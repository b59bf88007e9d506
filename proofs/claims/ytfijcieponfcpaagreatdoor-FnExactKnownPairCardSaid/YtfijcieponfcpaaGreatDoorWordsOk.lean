/- WordsOk of both texts. -/
import Derived.Test.YtfijcieponfcpaaGreatDoorWords
namespace Go.Proofs.YtfijcieponfcpaaGreatDoor
open Go.RowKit
set_option linter.unusedSimpArgs false
set_option linter.unusedVariables false
set_option maxRecDepth 20000

def wordsOkF (o : Int) (xs : List Int) : Bool := (decide (0 ≤ o) && decide (o ≤ 5)) && (decide (xs.length = cntN o) && allNumF xs)


end Go.Proofs.YtfijcieponfcpaaGreatDoor
