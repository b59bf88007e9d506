/- Conjugate pairs: a row of a tableau. -/
import Derived.Test.YtfijcieponfcpaaGreatDoorConjS
namespace Go.Proofs.YtfijcieponfcpaaGreatDoor
open Go.RowKit
set_option linter.unusedSimpArgs false
set_option linter.unusedVariables false
set_option maxRecDepth 20000

theorem impl_row (k : Nat) (gA n c : Nat) (B : Option Addr) (m d : Nat) (i : Nat) (w : World) (hk : k ≤ 8) (hn : n = k * k) (hi : i < k) (hc : n ≤ c) (hc2 : c ≤ 9223372036854775807) :
    Calls Tryz.prog 41 #[.agg #[.int .i64 (k : Int), .slice (some ⟨gA, 0, none⟩) n c, .slice B m d], .int .i64 (i : Int)] w fun e w' => e = .returned (.slice (some ⟨gA, i * k, none⟩) k (c - i * k)) ∧ Below w.heap.size w w' := by
  have a1 := below_alloc w (.cells #[.int .i64 (k : Int), .slice (some ⟨gA, 0, none⟩) n c, .slice B m d] 24)
  have h64 : n ≤ 64 := by rw [hn]; exact Nat.mul_le_mul hk hk
  have hle : i * k + k ≤ n := by
    rw [hn]
    have : (i + 1) * k ≤ k * k := Nat.mul_le_mul_right _ hi
    rwa [Nat.add_mul, Nat.one_mul] at this
  obtain ⟨q, hq⟩ : ∃ q : Nat, q = i * k := ⟨_, rfl⟩
  rw [← hq] at hle ⊢
  have hqi : (i : Int) * (k : Int) = (q : Int) := by rw [hq]; simp
  have hqj : ((i : Int) + 1) * (k : Int) = ((q + k : Nat) : Int) := by rw [Int.add_mul, Int.one_mul, hqi]; simp
  have hw1 := IntWalk.i64_in (q : Int) (by omega)
  have hw2 := IntWalk.i64_in ((q + k : Nat) : Int) (by omega)
  have hw3 := IntWalk.i64_in ((i : Int) + 1) (by omega)
  have hqc : ¬ c = q := by omega
  have hsub : q + k - q = k := by omega
  clear hq hn
  go_enter Tryz.func41, Tryz.ntmps41
  go_wp2_with fail
  rw [hsub]
  go_ret
  exact ⟨rfl, a1⟩
end Go.Proofs.YtfijcieponfcpaaGreatDoor
