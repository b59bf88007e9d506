/- Plain arithmetic of the residues by the prime 1000000271: no program in sight. -/
import Derived.Test.YthjkdpapadolgaaGreatDoorBase
namespace Go.Proofs.YthjkdpapadolgaaGreatDoor
open Go.RowKit
set_option linter.unusedSimpArgs false
set_option linter.unusedVariables false
set_option maxRecDepth 20000

theorem tmod_bd (n : Int) : -1000000271 < n.tmod 1000000271 ∧ n.tmod 1000000271 < 1000000271 := by
  rcases Int.le_total 0 n with h | h
  · rw [Int.tmod_eq_emod_of_nonneg h]; omega
  · obtain ⟨m, rfl⟩ : ∃ m, n = -m := ⟨-n, by omega⟩
    rw [Int.neg_tmod, Int.tmod_eq_emod_of_nonneg (by omega)]; omega

def resF (n : Int) : Int := n % 1000000271
theorem resF_bd (n : Int) : 0 ≤ resF n ∧ resF n < 1000000271 := by unfold resF; omega
theorem resF_of {n : Int} (h0 : 0 ≤ n) (h1 : n < 1000000271) : resF n = n := by unfold resF; omega

theorem res_eq (n : Int) : (n.tmod 1000000271 + 1000000271).tmod 1000000271 = resF n := by
  unfold resF
  rw [Int.tmod_eq_emod_of_nonneg (by have := tmod_bd n; omega)]
  rcases Int.le_total 0 n with h | h
  · rw [Int.tmod_eq_emod_of_nonneg h]; omega
  · obtain ⟨m, rfl⟩ : ∃ m, n = -m := ⟨-n, by omega⟩
    rw [Int.neg_tmod, Int.tmod_eq_emod_of_nonneg (by omega)]; omega

theorem res_eq' (n : Int) : (n.tmod 1000000271 + 1000000271) % 1000000271 = resF n := by
  rw [← res_eq, Int.tmod_eq_emod_of_nonneg (a := n.tmod 1000000271 + 1000000271) (by have := tmod_bd n; omega)]

def plusF (a b : Int) : Int := (a + b) % 1000000271
def minusF (a b : Int) : Int := (a - b) % 1000000271
def timesF (a b : Int) : Int := (a * b) % 1000000271
theorem plusF_bd (a b : Int) : 0 ≤ plusF a b ∧ plusF a b < 1000000271 := by unfold plusF; omega
theorem minusF_bd (a b : Int) : 0 ≤ minusF a b ∧ minusF a b < 1000000271 := by unfold minusF; omega
theorem timesF_bd (a b : Int) : 0 ≤ timesF a b ∧ timesF a b < 1000000271 := ⟨Int.emod_nonneg _ (by omega), Int.emod_lt_of_pos _ (by omega)⟩
theorem plus_eq (a b : Int) : (resF a + resF b) % 1000000271 = plusF a b := by unfold resF plusF; omega
theorem minus_eq (a b : Int) : (resF a - resF b + 1000000271) % 1000000271 = minusF a b := by unfold resF minusF; omega
theorem minus_eq' (a b : Int) : resF (resF a - resF b) = minusF a b := by unfold resF minusF; omega
theorem times_eq (a b : Int) : (resF a * resF b) % 1000000271 = timesF a b := by unfold resF timesF; rw [← Int.mul_emod]
theorem mul_bd {a b : Int} (ha : 0 ≤ a) (ha' : a < 1000000271) (hb : 0 ≤ b) (hb' : b < 1000000271) : 0 ≤ a * b ∧ a * b ≤ 1000000542000073441 := by
  refine ⟨Int.mul_nonneg ha hb, ?_⟩
  have h1 : a * b ≤ 1000000271 * b := Int.mul_le_mul_of_nonneg_right (by omega) hb
  omega

theorem timesF_res_l (a b : Int) : timesF (resF a) b = timesF a b := by unfold resF timesF; rw [Int.mul_emod, Int.emod_emod_of_dvd _ (by omega), ← Int.mul_emod]
theorem timesF_res_r (a b : Int) : timesF a (resF b) = timesF a b := by unfold resF timesF; rw [Int.mul_emod, Int.emod_emod_of_dvd _ (by omega), ← Int.mul_emod]
theorem timesF_comm (a b : Int) : timesF a b = timesF b a := by unfold timesF; rw [Int.mul_comm]
theorem timesF_one (a : Int) : timesF a 1 = resF a := by unfold timesF resF; rw [Int.mul_one]
theorem timesF_one' (a : Int) : timesF 1 a = resF a := by unfold timesF resF; rw [Int.one_mul]
theorem timesF_zero (a : Int) : timesF a 0 = 0 := by unfold timesF; simp
theorem timesF_zero' (a : Int) : timesF 0 a = 0 := by unfold timesF; simp
theorem plusF_zero (a : Int) : plusF 0 a = resF a := by unfold plusF resF; simp
theorem plusF_zero' (a : Int) : plusF a 0 = resF a := by unfold plusF resF; simp
theorem resF_res (a : Int) : resF (resF a) = resF a := by unfold resF; omega

theorem pow_mod (a : Int) (n : Nat) : (a % 1000000271) ^ n % 1000000271 = a ^ n % 1000000271 := by
  induction n with
  | zero => simp
  | succ n ih => rw [Int.pow_succ, Int.pow_succ, Int.mul_emod, ih, Int.emod_emod_of_dvd _ (by omega), ← Int.mul_emod]

@[irreducible] def powF (a k : Int) : Int := if k < 0 then 0 else a ^ k.toNat % 1000000271
theorem powF_bd (a k : Int) : 0 ≤ powF a k ∧ powF a k < 1000000271 := by
  unfold powF
  split
  · omega
  · exact ⟨Int.emod_nonneg _ (by omega), Int.emod_lt_of_pos _ (by omega)⟩
theorem powF_neg {a k : Int} (h : k < 0) : powF a k = 0 := by unfold powF; rw [if_pos h]
theorem powF_res (a k : Int) : powF (resF a) k = powF a k := by
  unfold powF resF
  split
  · rfl
  · exact pow_mod _ _
theorem powF_start {a k : Int} (h : 0 ≤ k) : powF a k = (1 * resF a ^ k.toNat) % 1000000271 := by
  unfold powF resF
  rw [if_neg (by omega), Int.one_mul, pow_mod]
theorem pow_odd {o x k : Int} (h : 0 ≤ k) (h2 : k % 2 = 1) : (o * x ^ k.toNat) % 1000000271 = ((o * x % 1000000271) * (x * x % 1000000271) ^ (k / 2).toNat) % 1000000271 := by
  have e : k.toNat = 2 * (k / 2).toNat + 1 := by omega
  rw [Int.mul_emod (o * x % 1000000271), pow_mod, Int.emod_emod_of_dvd _ (by omega), ← Int.mul_emod, e, Int.pow_succ, Int.pow_mul]
  congr 1
  rw [show x ^ 2 = x * x from by rw [Int.pow_succ, Int.pow_succ, Int.pow_zero, Int.one_mul]]
  rw [Int.mul_assoc, Int.mul_comm x ((x * x) ^ _)]
theorem pow_even {o x k : Int} (h : 0 ≤ k) (h2 : k % 2 = 0) : (o * x ^ k.toNat) % 1000000271 = (o * (x * x % 1000000271) ^ (k / 2).toNat) % 1000000271 := by
  have e : k.toNat = 2 * (k / 2).toNat := by omega
  rw [Int.mul_emod o ((x * x % 1000000271) ^ _), pow_mod, ← Int.mul_emod, e, Int.pow_mul]
  congr 1
  rw [show x ^ 2 = x * x from by rw [Int.pow_succ, Int.pow_succ, Int.pow_zero, Int.one_mul]]
theorem pow_stop {o x : Int} (h0 : 0 ≤ o) (h1 : o < 1000000271) : (o * x ^ (0 : Int).toNat) % 1000000271 = o := by
  simp only [Int.toNat_zero, Int.pow_zero, Int.mul_one]
  exact Int.emod_eq_of_lt h0 h1

def invF (a : Int) : Int := powF a 1000000269
def fracF (a b : Int) : Int := timesF a (invF b)
theorem invF_bd (a : Int) : 0 ≤ invF a ∧ invF a < 1000000271 := powF_bd _ _
theorem fracF_bd (a b : Int) : 0 ≤ fracF a b ∧ fracF a b < 1000000271 := timesF_bd _ _
theorem fracF_one (b : Int) : fracF 1 b = invF b := by unfold fracF; rw [timesF_one']; exact resF_of (invF_bd b).1 (invF_bd b).2
theorem invF_res (a : Int) : invF (resF a) = invF a := powF_res _ _
theorem fracF_res_l (a b : Int) : fracF (resF a) b = fracF a b := timesF_res_l _ _
theorem fracF_res_r (a b : Int) : fracF a (resF b) = fracF a b := by unfold fracF; rw [invF_res]
def cbrtF (a : Int) : Int := powF a 666666847
def jumpF : Int := invF (minusF 2 (cbrtF 2))
def isNumF (n : Int) : Bool := decide (0 ≤ n) && decide (n < 1000000271)
theorem isNumF_iff (n : Int) : isNumF n = true ↔ 0 ≤ n ∧ n < 1000000271 := by simp [isNumF]
end Go.Proofs.YthjkdpapadolgaaGreatDoor
