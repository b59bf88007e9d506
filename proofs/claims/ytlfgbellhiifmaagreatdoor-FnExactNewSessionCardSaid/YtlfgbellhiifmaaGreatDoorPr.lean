/- Pairs of tableaus: the statements' helpers, PairOk of both texts. -/
import Derived.Test.YtlfgbellhiifmaaGreatDoorTab
namespace Go.Proofs.YtlfgbellhiifmaaGreatDoor
open Go.RowKit
set_option linter.unusedSimpArgs false
set_option linter.unusedVariables false
set_option maxRecDepth 20000

def sz4F (n m n' m' : Nat) (left : Int) : Int := if left < (n : Int) + m then -1 else sz2F n' m' (left - n - m)
theorem sz4F_ok {n m n' m' : Nat} {left : Int} (h : (n : Int) + m + n' + m' ≤ left) : sz4F n m n' m' left = left - n - m - n' - m' := by
  unfold sz4F
  rw [if_neg (by omega), sz2F_ok (by omega)]
theorem sz4F_big {n m n' m' : Nat} {left : Int} (h : left < (n : Int) + m + n' + m') : sz4F n m n' m' left = -1 := by
  unfold sz4F
  split
  · rfl
  · exact sz2F_big (by omega)
theorem sz2F_bd (n m : Nat) (left : Int) (h : 0 ≤ left) (h1 : left ≤ 1048576) : -1 ≤ sz2F n m left ∧ sz2F n m left ≤ 1048576 := by
  unfold sz2F
  split
  · omega
  · split <;> omega
theorem sz2F_neg {n m : Nat} {left : Int} (h : sz2F n m left < 0) : sz2F n m left = -1 := by
  unfold sz2F at h ⊢
  split
  · rfl
  · split
    · rfl
    · rename_i h1 h2; rw [if_neg h1, if_neg h2] at h; omega

def pairEqF (s : Int) (xs ys : List Int) (s' : Int) (xs' ys' : List Int) (t : Int) (us vs : List Int) (t' : Int) (us' vs' : List Int) : Bool := tabEqF s xs ys t us vs && tabEqF s' xs' ys' t' us' vs'
def pairOkF (s : Int) (xs ys : List Int) (s' : Int) (xs' ys' : List Int) : Bool := tabOkF s xs ys && (tabOkF s' xs' ys' && (s == s'))

theorem pairEq_refl (s : Int) (xs ys : List Int) (s' : Int) (xs' ys' : List Int) : pairEqF s xs ys s' xs' ys' s xs ys s' xs' ys' = true := by
  unfold pairEqF tabEqF
  simp

end Go.Proofs.YtlfgbellhiifmaaGreatDoor
