/- Words (an order and its numbers): what they read as, their making, their checks, the statements' helpers on them. -/
import Derived.Test.YtfijcieponfcpaaGreatDoorIntS
namespace Go.Proofs.YtfijcieponfcpaaGreatDoor
open Go.RowKit
set_option linter.unusedSimpArgs false
set_option linter.unusedVariables false
set_option maxRecDepth 20000

def cntN (o : Int) : Nat := 2 ^ (o.toNat + 1) - 1
theorem cntN_bd {o : Int} (h1 : o ≤ 5) : 1 ≤ cntN o ∧ cntN o ≤ 63 := by
  unfold cntN
  have h2 : 2 ^ (o.toNat + 1) ≤ 2 ^ 6 := Nat.pow_le_pow_right (by omega) (by omega)
  have h3 : 2 ^ 1 ≤ 2 ^ (o.toNat + 1) := Nat.pow_le_pow_right (by omega) (by omega)
  omega

theorem replicate_rng (n : Nat) : ∀ x ∈ List.replicate n (0 : Int), R64 x := by
  intro x hx
  rw [List.mem_replicate] at hx
  rw [hx.2]
  constructor <;> omega

/-- A pair of an order and numbers; the zero value for what is none. -/
def unitF (o : Int) : Int × List Int := if 0 ≤ o ∧ o ≤ 5 then (o, (List.replicate (cntN o) 0).set 0 1) else (0, [])

def letterF (o l x : Int) : Int × List Int := if (1 ≤ o ∧ o ≤ 5) ∧ (0 ≤ l ∧ l ≤ 1) then (o, (List.replicate (cntN o) 0).set (1 + l.toNat) (resF x)) else (0, [])


end Go.Proofs.YtfijcieponfcpaaGreatDoor
