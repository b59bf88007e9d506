/- The word at a place: what it is, and the walks of both texts. -/
import Derived.Test.YtppekbokaknocaaDoorShades
import Derived.Test.YtppekbokaknocaaDoorAppend
namespace Go.Proofs.YtppekbokaknocaaDoor
open Go.RowKit
set_option linter.unusedSimpArgs false
set_option linter.unusedVariables false
set_option maxRecDepth 20000

def wordL (p : Nat) : List Int := if p = 0 then [] else wordL ((p - 1) / 2) ++ [(((p - 1) % 2 : Nat) : Int)]
termination_by p
decreasing_by omega

theorem wordL_zero : wordL 0 = [] := by unfold wordL; simp
theorem wordL_pos {p : Nat} (h : 0 < p) : wordL p = wordL ((p - 1) / 2) ++ [(((p - 1) % 2 : Nat) : Int)] := by rw [wordL, if_neg (by omega)]
theorem wordL_len (p k : Nat) (h : p + 2 ≤ 2 ^ (k + 1)) : (wordL p).length ≤ k := by
  induction k generalizing p with
  | zero =>
    obtain rfl : p = 0 := by simp at h; omega
    rw [wordL_zero]; simp
  | succ k ih =>
    by_cases hp : p = 0
    · subst hp; rw [wordL_zero]; simp
    · rw [wordL_pos (by omega), List.length_append]
      have := ih ((p - 1) / 2) (by rw [Nat.pow_succ] at h; omega)
      simp; omega
theorem wordL_len5 {p : Nat} (h : p ≤ 62) : (wordL p).length ≤ 5 := wordL_len p 5 (by omega)
theorem wordL_bit (p : Nat) : ∀ x ∈ wordL p, x = 0 ∨ x = 1 := by
  induction p using Nat.strongRecOn with
  | ind p ih =>
    by_cases hp : p = 0
    · subst hp; rw [wordL_zero]; simp
    · rw [wordL_pos (by omega)]
      intro x hx
      rw [List.mem_append] at hx
      rcases hx with hx | hx
      · exact ih _ (by omega) x hx
      · simp at hx; omega
theorem placeGo_bd (xs : List Int) (hb : ∀ x ∈ xs, x = 0 ∨ x = 1) (k : Nat) (st : Int) (h0 : 0 ≤ st) (h1 : st + 2 ≤ 2 ^ (k + 1)) : 0 ≤ placeGo st xs ∧ placeGo st xs + 2 ≤ 2 ^ (k + xs.length + 1) := by
  induction xs generalizing k st with
  | nil => simpa [placeGo] using ⟨h0, h1⟩
  | cons x xs ih =>
    have hx := hb x (by simp)
    have hl : isLetterF x = true := (isLetterF_iff x).2 (by omega)
    rw [placeGo, if_pos hl]
    have h2 : (2 : Int) ^ (k + 1 + 1) = 2 ^ (k + 1) * 2 := Int.pow_succ _ _
    have := ih (fun y hy => hb y (by simp [hy])) (k + 1) (2 * st + 1 + x) (by omega) (by omega)
    rw [List.length_cons, show k + (xs.length + 1) + 1 = k + 1 + xs.length + 1 by omega]
    exact this
theorem placeF_bd {xs : List Int} (hb : ∀ x ∈ xs, x = 0 ∨ x = 1) (hl : xs.length ≤ 5) : 0 ≤ placeF xs ∧ placeF xs + 2 ≤ 2 ^ (xs.length + 1) := by
  unfold placeF
  rw [if_neg (by omega)]
  have := placeGo_bd xs hb 0 0 (by omega) (by omega)
  rwa [Nat.zero_add] at this



end Go.Proofs.YtppekbokaknocaaDoor
