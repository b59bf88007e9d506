/- Symplectic pairs: the loops of both texts. -/
import Derived.Test.YthjkdpapadolgaaGreatDoorSym
namespace Go.Proofs.YthjkdpapadolgaaGreatDoor
open Go.RowKit
set_option linter.unusedSimpArgs false
set_option linter.unusedVariables false
set_option maxRecDepth 20000

def symJ (n : Nat) (b f g : List Int) (i : Nat) : Nat → Nat → Bool
  | 0, _ => true
  | s + 1, j => if plusF (timesF (b.getD i 0) (g.getD (i * n + j) 0)) (timesF (b.getD j 0) (f.getD (j * n + i) 0)) = timesF (b.getD i 0) (b.getD j 0) then symJ n b f g i s (j + 1) else false
def symI (n : Nat) (b f g : List Int) : Nat → Nat → Bool
  | 0, _ => true
  | s + 1, i => if symJ n b f g i n 0 = true then symI n b f g s (i + 1) else false
def symF (s : Int) (xs ys : List Int) (s' : Int) (xs' ys' : List Int) : Bool := if pairOkF s xs ys s' xs' ys' = true then decide (ys = ys') && symI s.toNat ys xs xs' s.toNat 0 else false
theorem tabOk_facts {s : Int} {xs ys : List Int} (h : tabOkF s xs ys = true) : ∃ k : Nat, s = (k : Int) ∧ k ≤ 8 ∧ xs.length = k * k ∧ ys.length = k := by
  unfold tabOkF at h
  simp only [Bool.and_eq_true, decide_eq_true_eq] at h
  obtain ⟨⟨h0, h8⟩, h1, h2, _⟩ := h
  refine ⟨s.toNat, by omega, by omega, ?_, by omega⟩
  obtain ⟨k, rfl⟩ : ∃ k : Nat, s = (k : Int) := ⟨s.toNat, by omega⟩
  have : ((k * k : Nat) : Int) = (k : Int) * k := by simp
  simp only [Int.toNat_natCast]
  omega
theorem pairOk_facts {s : Int} {xs ys : List Int} {s' : Int} {xs' ys' : List Int} (h : pairOkF s xs ys s' xs' ys' = true) : tabOkF s xs ys = true ∧ tabOkF s' xs' ys' = true ∧ s = s' := by
  unfold pairOkF at h
  simp only [Bool.and_eq_true, beq_iff_eq] at h
  exact ⟨h.1, h.2.1, h.2.2⟩
theorem r64_nm {x : Int} (h : 0 ≤ x ∧ x < 1000000271) : R64 x := by constructor <;> omega
theorem r64_getD {xs : List Int} (h : ∀ x ∈ xs, R64 x) (p : Nat) : R64 (xs.getD p 0) := by
  rw [List.getD]
  cases hx : xs[p]? with
  | none => constructor <;> simp
  | some x => exact h x (List.mem_of_getElem? hx)
theorem Ints.cellD {w : World} {lo hi : Nat} {ad : Addr} {n c : Nat} {xs : List Int} (h : Ints w lo hi (some ad) n c xs) {p : Nat} (hp : p < n) : w.cell? (ad.add p) = some (.int .i64 (xs.getD p 0)) := by
  obtain ⟨ad', x, e, hc, _, _, hx⟩ := h.at_ hp
  injection e with e
  subst e
  rw [hc, List.getD, hx.out]
  rfl
theorem idx_lt {k a b : Nat} (ha : a < k) (hb : b < k) : a * k + b < k * k := by
  have : (a + 1) * k ≤ k * k := Nat.mul_le_mul_right _ ha
  rw [Nat.add_mul] at this
  omega

end Go.Proofs.YthjkdpapadolgaaGreatDoor
