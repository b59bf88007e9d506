/- Paths: whether they are well formed; the walks. -/
import Derived.Test.YtfijcieponfcpaaGreatDoorInts2
namespace Go.Proofs.YtfijcieponfcpaaGreatDoor
open Go.RowKit
set_option linter.unusedSimpArgs false
set_option linter.unusedVariables false
set_option maxRecDepth 20000

def pathGo (dim : Int) : List (List Int) → Bool
  | [] => true
  | xs :: r => if (decide ((xs.length : Int) = dim) && allNumF xs) = true then pathGo dim r else false
def pathOkF (xss : List (List Int)) (dim : Int) : Bool := (decide (1 ≤ xss.length) && decide (xss.length ≤ 7)) && pathGo dim xss

section
variable {xss : List (List Int)} {dim : Int} {k : Nat} {xs : List Int}
theorem pathGo_step (hd : xss.drop k = xs :: xss.drop (k+1)) (h1 : (xs.length : Int) = dim) (h2 : allNumF xs = true) : pathGo dim (xss.drop k) = pathGo dim (xss.drop (k+1)) := by
  rw [hd, pathGo, if_pos (by rw [decide_eq_true h1, h2]; rfl)]
theorem pathGo_no1 (hd : xss.drop k = xs :: xss.drop (k+1)) (h1 : ¬ (xs.length : Int) = dim) : pathGo dim (xss.drop k) = false := by
  rw [hd, pathGo, if_neg (by rw [decide_eq_false h1]; simp)]
theorem pathGo_no2 (hd : xss.drop k = xs :: xss.drop (k+1)) (h2 : allNumF xs = false) : pathGo dim (xss.drop k) = false := by
  rw [hd, pathGo, if_neg (by rw [h2]; simp)]
end

end Go.Proofs.YtfijcieponfcpaaGreatDoor
