/- Products of words: how multiples pass through them. Plain law. -/
import Derived.Test.YtppekbokaknocaaDoorMul
namespace Go.Proofs.YtppekbokaknocaaDoor
open Go.RowKit
set_option linter.unusedSimpArgs false
set_option linter.unusedVariables false
set_option maxRecDepth 20000

theorem timesF_emod (a b : Int) : timesF (a % 1000000271) (b % 1000000271) = (a * b) % 1000000271 := by unfold timesF; rw [← Int.mul_emod]
theorem timesF_emod_l (a b : Int) : timesF (a % 1000000271) b = (a * b) % 1000000271 := by unfold timesF; rw [Int.mul_emod, Int.emod_emod_of_dvd _ (by omega), ← Int.mul_emod]
theorem timesF_emod_r (a b : Int) : timesF a (b % 1000000271) = (a * b) % 1000000271 := by unfold timesF; rw [Int.mul_emod, Int.emod_emod_of_dvd _ (by omega), ← Int.mul_emod]
theorem plusF_emod (a b : Int) : plusF (a % 1000000271) (b % 1000000271) = (a + b) % 1000000271 := by unfold plusF; omega
theorem plusF_emod_r (a b : Int) : plusF a (b % 1000000271) = (a + b) % 1000000271 := by unfold plusF; omega
theorem plusF_emod_l (a b : Int) : plusF (a % 1000000271) b = (a + b) % 1000000271 := by unfold plusF; omega

theorem invF_mul (a b : Int) : invF (a * b) = timesF (invF a) (invF b) := by
  unfold invF powF
  simp only [show ¬ ((1000000269 : Int) < 0) by omega, if_false]
  rw [timesF_emod, Int.mul_pow]

theorem mulGo_scale (xs ys v : List Int) (c d : Int) (s k : Nat) (acc : Int) :
    mulGo (xs.map (fun x => timesF x c)) (ys.map (fun y => timesF y d)) v s k (timesF acc (timesF c d)) = timesF (mulGo xs ys v s k acc) (timesF c d) := by
  induction s generalizing k acc with
  | zero => rfl
  | succ s ih =>
    rw [mulGo, mulGo, ← ih]
    congr 1
    have hg : ∀ (l : List Int) (e : Int) (i : Nat), (l.map (fun x => timesF x e)).getD i 0 = timesF (l.getD i 0) e := by
      intro l e i
      simp only [List.getD, List.getElem?_map]
      cases l[i]? with
      | none => simp [timesF_zero']
      | some x => simp
    rw [hg, hg]
    generalize xs.getD _ 0 = x
    generalize ys.getD _ 0 = y
    have e1 : timesF (timesF x c) (timesF y d) = (x * c * (y * d)) % 1000000271 := timesF_emod _ _
    have e2 : timesF acc (timesF c d) = (acc * (c * d)) % 1000000271 := timesF_emod_r _ _
    have e3 : plusF acc (timesF x y) = (acc + x * y) % 1000000271 := plusF_emod_r _ _
    rw [e1, e2, e3, plusF_emod]
    have e4 : timesF ((acc + x * y) % 1000000271) (timesF c d) = ((acc + x * y) * (c * d)) % 1000000271 := timesF_emod _ _
    rw [e4]
    congr 1
    grind
theorem mulL_scale (n : Nat) (xs ys : List Int) (c d : Int) : mulL n (xs.map (fun x => timesF x c)) (ys.map (fun y => timesF y d)) = (mulL n xs ys).map (fun x => timesF x (timesF c d)) := by
  unfold mulL
  rw [List.map_map]
  apply List.map_congr_left
  intro j _
  unfold mulAt
  have := mulGo_scale xs ys (wordL j) c d ((wordL j).length + 1) 0 0
  rw [timesF_zero'] at this
  exact this

theorem invF_one : invF 1 = 1 := by
  unfold invF powF
  simp only [show ¬ ((1000000269 : Int) < 0) by omega, if_false]
  rw [Int.one_pow]
  rfl

/-- The exponential of words, step by step: s steps are left, the next one is the j-th. -/
def factN : Nat → Nat
  | 0 => 1
  | n + 1 => factN n * (n + 1)
def expGo (n : Nat) (a : List Int) : Nat → Nat → List Int → List Int → List Int
  | 0, _, out, _ => out
  | s + 1, j, out, pw => expGo n a s (j + 1) (zipF out (mulL n pw a) (invF (factN j))) (mulL n pw a)

theorem zip_scale (out p : List Int) (c : Int) : zipF out (p.map (fun x => timesF x c)) 1 = zipF out p c := by
  unfold zipF
  rw [List.zipWith_map_right]
  congr 1
  funext a b
  rw [timesF_one, resF_of (timesF_bd _ _).1 (timesF_bd _ _).2]
theorem exp_step (n : Nat) (pw a : List Int) (j : Nat) : mulL n (pw.map (fun x => timesF x (invF (factN j)))) (a.map (fun y => timesF y (invF ((j : Int) + 1)))) = (mulL n pw a).map (fun x => timesF x (invF (factN (j + 1)))) := by
  rw [mulL_scale, ← invF_mul]
  simp [factN]
theorem map_one {l : List Int} (h : ∀ x ∈ l, 0 ≤ x ∧ x < 1000000271) : l.map (fun x => timesF x (invF (factN 0))) = l := by
  have e : invF (factN 0) = 1 := invF_one
  rw [e]
  conv => rhs; rw [← List.map_id l]
  apply List.map_congr_left
  intro x hx
  rw [timesF_one, resF_of (h x hx).1 (h x hx).2]
  rfl
end Go.Proofs.YtppekbokaknocaaDoor
