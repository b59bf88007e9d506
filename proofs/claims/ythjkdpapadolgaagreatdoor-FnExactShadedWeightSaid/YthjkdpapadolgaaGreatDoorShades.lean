/- IsShades, CountShades, PlaceOfWord: the walks of both texts, and that the two agree. -/
import Derived.Test.YthjkdpapadolgaaGreatDoorIntS
import Derived.Test.YthjkdpapadolgaaGreatDoorAppend
namespace Go.Proofs.YthjkdpapadolgaaGreatDoor
open Go.RowKit
set_option linter.unusedSimpArgs false
set_option linter.unusedVariables false
set_option maxRecDepth 20000

def countShadesF (n : Int) : Int := if n = 0 then 0 else if n = 1 then 2 else if n = 2 then 6 else if n = 3 then 20 else if n = 4 then 72 else -1


theorem spec_CountShades (n : Int) (w : World) :
    Calls Tryz.prog 23 #[.int .i64 n] w fun e w' => e = .returned (.int .i64 (countShadesF n)) ∧ Below w.heap.size w w' := by
  by_cases h0 : n < 0
  · have hF : Hid (countShadesF n = -1) := by show _ = _; unfold countShadesF; repeat rw [if_neg (by omega)]
    have hd : decide (0 ≤ n) = false := by simpa using h0
    go_enter Tryz.func23, Tryz.ntmps23
    go_wp2_with (go_at_call 22; refine (spec_l1In _ _ _ _).mono ?_; rintro e w' ⟨rfl, rfl⟩)
    go_ret
    exact ⟨ret_int hF.out.symm, Below.refl _ _⟩
  · by_cases h4 : 4 < n
    · have hF : Hid (countShadesF n = -1) := by show _ = _; unfold countShadesF; repeat rw [if_neg (by omega)]
      have hd : decide (n ≤ 4) = false := by simpa using h4
      go_enter Tryz.func23, Tryz.ntmps23
      go_wp2_with (go_at_call 22; refine (spec_l1In _ _ _ _).mono ?_; rintro e w' ⟨rfl, rfl⟩)
      go_ret
      exact ⟨ret_int hF.out.symm, Below.refl _ _⟩
    · obtain h | h | h | h | h : n = 0 ∨ n = 1 ∨ n = 2 ∨ n = 3 ∨ n = 4 := by omega
      all_goals
        subst h
        clear h0 h4
        go_enter Tryz.func23, Tryz.ntmps23
        go_wp2_with (go_at_call 22; refine (spec_l1In _ _ _ _).mono ?_; rintro e w' ⟨rfl, rfl⟩)
        go_ret
        exact ⟨ret_int (by decide), (Below.refl _ _).alloc (Nat.le_refl _) _⟩


def shadesGo (prev : Int) : List Int → Bool
  | [] => true
  | x :: r => if x < 2 ∨ prev / 2 + 1 < x / 2 then false else shadesGo x r
def isShadesF : List Int → Bool
  | [] => false
  | x :: r => if 3 < r.length ∨ x < 0 ∨ 1 < x then false else shadesGo x r


end Go.Proofs.YthjkdpapadolgaaGreatDoor
