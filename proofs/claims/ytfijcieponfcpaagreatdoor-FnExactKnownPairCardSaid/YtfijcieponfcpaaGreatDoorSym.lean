/- Symplectic pairs: the walks of both texts. -/
import Derived.Test.YtfijcieponfcpaaGreatDoorPr
namespace Go.Proofs.YtfijcieponfcpaaGreatDoor
open Go.RowKit
set_option linter.unusedSimpArgs false
set_option linter.unusedVariables false
set_option maxRecDepth 20000

def lessF : List Int → List Int → Bool
  | [], [] => false
  | [], _ :: _ => true
  | _ :: _, [] => false
  | x :: xs, y :: ys => if x = y then lessF xs ys else decide (x < y)
theorem less_same (xs ys : List Int) : (!lessF xs ys && !lessF ys xs) = decide (xs = ys) := by
  induction xs generalizing ys with
  | nil => cases ys <;> rfl
  | cons x xs ih =>
    cases ys with
    | nil => rfl
    | cons y ys =>
      rw [lessF, lessF]
      by_cases h : x = y
      · subst h
        rw [if_pos rfl, if_pos rfl, ih]
        simp
      · rw [if_neg h, if_neg (Ne.symm h)]
        have : decide (x :: xs = y :: ys) = false := decide_eq_false (fun e => h (by injection e))
        rw [this]
        rcases (show x < y ∨ y < x by omega) with q | q
        · simp [q]
        · simp [q]

theorem impl_a (s : Nat) (A : Option Addr) (n c : Nat) (xs : List Int) (B : Option Addr) (m d : Nat) (i j : Nat) (lo hi : Nat) (w : World) (h : Ints w lo hi A n c xs) (hh : hi ≤ w.heap.size) (hs : s ≤ 8) (hn : n = s * s) (hi' : i < s) (hj : j < s) :
    Calls Tryz.prog 40 #[.agg #[.int .i64 (s : Int), .slice A n c, .slice B m d], .int .i64 (i : Int), .int .i64 (j : Int)] w fun e w' => e = .returned (.int .i64 (xs.getD (i * s + j) 0)) ∧ Below w.heap.size w w' := by
  have a1 := below_alloc w (.cells #[.int .i64 (s : Int), .slice A n c, .slice B m d] 24)
  have hcp := h.cap
  have hmx := h.max
  have hlt : i * s + j < n := by
    rw [hn]
    have : (i + 1) * s ≤ s * s := Nat.mul_le_mul_right _ hi'
    rw [Nat.add_mul] at this
    omega
  have hn64 : n ≤ 64 := by rw [hn]; exact Nat.mul_le_mul hs hs
  obtain ⟨ad, x, rfl, hc, _, _, hx⟩ := (h.below a1 hh).at_ hlt
  have hF : Hid (xs.getD (i * s + j) 0 = x) := by show _ = _; rw [List.getD, hx.out]; rfl
  obtain ⟨q, hq⟩ : ∃ q : Nat, q = i * s := ⟨_, rfl⟩
  rw [← hq] at hlt hc hF
  have hqi : (i : Int) * (s : Int) = (q : Int) := by rw [hq]; simp
  have hw1 := IntWalk.i64_in (q : Int) (by omega)
  have hw2 := IntWalk.i64_in ((q : Int) + (j : Int)) (by omega)
  have hb : (q : Int) + (j : Int) < (n : Int) := by omega
  have ht : ((q : Int) + (j : Int)).toNat = q + j := by omega
  rw [← hq]
  clear hq hx hn
  go_enter Tryz.func40, Tryz.ntmps40
  go_wp2_with fail
  go_ret
  exact ⟨ret_int hF.out.symm, a1⟩
end Go.Proofs.YtfijcieponfcpaaGreatDoor
