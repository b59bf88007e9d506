/- The world in which the listed tables lie as the program's text lays them: the witness of the cards' rows. -/
import Derived.Test.YtlfgbellhiifmaaGreatDoorFrames
import Derived.Test.YtlfgbellhiifmaaGreatDoorCards
import Derived.Test.YtlfgbellhiifmaaGreatDoorTie
import Derived.SevenTiedAt
import Derived.LaidLaws
import Derived.LaidHandle
import Derived.Handed
import Derived.Shelf.Vars
namespace Go.Proofs.YtlfgbellhiifmaaGreatDoor
open Go.ChangeShapes Go.WideShapes Go.ChangeAt Go.RowKit
set_option linter.unusedSimpArgs false
set_option linter.unusedVariables false
set_option maxRecDepth 20000
set_option maxRecDepth 100000

def litV : DataW Unit → Value
  | .lit l => l.value
  | _ => undef
def litRow : DataW Unit → Array Value
  | .agg ps => (ps.map litV).toArray
  | _ => #[]
def litRows : DataW Unit → Array Value
  | .agg ps => (ps.flatMap fun d => (litRow d).toList).toArray
  | _ => #[]
def putCells (cs : Array Value) : Obj → Obj
  | .cells _ t fr => .cells cs t fr
  | o => o
noncomputable def laidWorld (os : Os) : World :=
  { World.holding Tryz.prog os ⟨#[], #[], []⟩ with heap := ((World.holding Tryz.prog os ⟨#[], #[], []⟩).heap.modify 1 (putCells (litRow Rows.laid_unicode_utf8_first))).modify 2 (putCells (litRows Rows.laid_unicode_utf8_acceptRanges)) }
theorem laidWorld_met (os : Os) (args : Array Value) : laidMetH Tryz.prog [("unicode/utf8.acceptRanges", Rows.laid_unicode_utf8_acceptRanges), ("unicode/utf8.first", Rows.laid_unicode_utf8_first)] ((laidWorld os).forCall (fun _ _ => 0) ⟨#[], args, []⟩).memory :=
  laidMetH_of_parts (laidMet_of_run' 8 (by kernel_rfl) (by kernel_rfl)) (by kernel_rfl)
theorem max_cell {W : World} (h : W.ShapedOpen Tryz.prog) : ∃ m, W.cell? ⟨0, 0, none⟩ = some (.int .i64 m) :=
  cell_of_shapedOpen_int (g := 0) (t := 3) (zero := #[.int .i64 0]) (k := .i64) h (of_decide_eq_true (by kernel_rfl)) (by kernel_rfl) rfl (by kernel_rfl) (by kernel_rfl) Tryz.underlying3
end Go.Proofs.YtlfgbellhiifmaaGreatDoor
