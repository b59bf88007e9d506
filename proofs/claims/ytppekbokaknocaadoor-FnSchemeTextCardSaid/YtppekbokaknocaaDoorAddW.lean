/- Sums of words and words times a number: the reference's AddWords, the program's mixWords, AddWords, ScaleWords. -/
import Derived.Test.YtppekbokaknocaaDoorMix
namespace Go.Proofs.YtppekbokaknocaaDoor
open Go.RowKit
set_option linter.unusedSimpArgs false
set_option linter.unusedVariables false
set_option maxRecDepth 20000

def zipF (xs ys : List Int) (k : Int) : List Int := List.zipWith (fun a b => plusF a (timesF b k)) xs ys
def addF (o : Int) (xs : List Int) (o' : Int) (ys : List Int) : (Int × List Int) × Bool := if fitF o xs o' ys then ((o, zipF xs ys 1), true) else ((0, []), false)
theorem fit_facts {o o' : Int} {xs ys : List Int} (h : fitF o xs o' ys = true) : wordsOkF o xs = true ∧ wordsOkF o' ys = true ∧ o = o' := by
  unfold fitF at h
  simp only [Bool.and_eq_true, beq_iff_eq] at h
  exact ⟨h.1.1, h.1.2, h.2⟩
theorem zip_at {xs ys : List Int} {k x y : Int} {j : Nat} (hx : xs[j]? = some x) (hy : ys[j]? = some y) : (zipF xs ys k)[j]? = some (plusF x (timesF y k)) := by
  unfold zipF
  rw [List.getElem?_zipWith, hx, hy]
theorem zip_len {xs ys : List Int} {k : Int} {n : Nat} (hx : xs.length = n) (hy : ys.length = n) : (zipF xs ys k).length = n := by
  unfold zipF
  rw [List.length_zipWith, hx, hy]; omega
theorem zip_rng (xs ys : List Int) (k : Int) : ∀ x ∈ zipF xs ys k, R64 x := by
  intro x hx
  obtain ⟨j, hj⟩ := List.getElem?_of_mem hx
  unfold zipF at hj
  rw [List.getElem?_zipWith] at hj
  split at hj
  · injection hj with hj
    rw [← hj]
    exact r64_of_num (plusF_bd _ _)
  · cases hj

theorem zip_zeros {n : Nat} {ys : List Int} {k : Int} (h : ys.length = n) : zipF (List.replicate n 0) ys k = ys.map (fun x => timesF x k) := by
  apply List.ext_getElem?
  intro j
  unfold zipF
  rw [List.getElem?_zipWith, List.getElem?_map, List.getElem?_replicate]
  by_cases hj : j < n
  · rw [if_pos hj, List.getElem?_eq_getElem (by omega)]
    simp only [Option.map_some]
    rw [plusF_zero, resF_of (timesF_bd _ _).1 (timesF_bd _ _).2]
  · rw [if_neg hj, List.getElem?_eq_none (by omega)]
    rfl
theorem zeros_num (n : Nat) : ∀ x ∈ List.replicate n (0 : Int), 0 ≤ x ∧ x < 1000000271 := by
  intro x hx
  rw [List.mem_replicate] at hx
  rw [hx.2]
  constructor <;> omega

end Go.Proofs.YtppekbokaknocaaDoor
