/- Shaded trees: their branches and their greatest list, as plain functions. -/
import Derived.Test.YthjkdpapadolgaaGreatDoorCmpW
namespace Go.Proofs.YthjkdpapadolgaaGreatDoor
open Go.RowKit
set_option linter.unusedSimpArgs false
set_option linter.unusedVariables false
set_option maxRecDepth 20000

def pushLast (ps : List (List Int)) (x : Int) : List (List Int) := ps.dropLast ++ [ps.getLast?.getD [] ++ [x]]
/-- the branches, from the rest of a list -/
def partsF : List (List Int) → List Int → List (List Int)
  | acc, [] => acc
  | acc, n :: r => partsF (pushLast (if n < 4 then acc ++ [[]] else acc) (n - 2)) r
/-- what a list must be for its branches to be read alike by both texts -/
def Shd : List Int → Prop
  | [] => False
  | a :: r => (0 ≤ a ∧ a < 2) ∧ (∀ n ∈ r, 2 ≤ n) ∧ (∀ n ∈ r.head?, n < 4)
def insF (p : List Int) : List (List Int) → List (List Int)
  | [] => [p]
  | q :: r => if lessF q p then p :: q :: r else q :: insF p r
def sortF (ps : List (List Int)) : List (List Int) := ps.foldl (fun s p => insF p s) []
def formF : Nat → List Int → List Int
  | 0, l => l
  | _ + 1, [] => []
  | k + 1, a :: r => a :: (sortF ((partsF [] r).map (formF k))).flatMap (·.map (· + 2))

theorem pushLast_len (ps : List (List Int)) (x : Int) (h : ps ≠ []) : (pushLast ps x).length = ps.length := by
  unfold pushLast
  have := List.length_pos_iff.2 h
  simp
  omega
theorem partsF_len : ∀ (r : List Int) (acc : List (List Int)), acc ≠ [] ∨ (∀ n ∈ r.head?, n < 4) → (partsF acc r).length ≤ acc.length + r.length
  | [], acc, _ => by simp [partsF]
  | n :: r, acc, h => by
    rw [partsF]
    by_cases hn : n < 4
    · rw [if_pos hn]
      have h1 := partsF_len r (pushLast (acc ++ [[]]) (n - 2)) (.inl (by unfold pushLast; simp))
      rw [pushLast_len _ _ (by simp)] at h1
      simp at h1 ⊢
      omega
    · rw [if_neg hn]
      have ha : acc ≠ [] := by
        rcases h with h | h
        · exact h
        · exact absurd (h n (by simp)) hn
      have h1 := partsF_len r (pushLast acc (n - 2)) (.inl (by unfold pushLast; simp))
      rw [pushLast_len _ _ ha] at h1
      simp
      omega
end Go.Proofs.YthjkdpapadolgaaGreatDoor
