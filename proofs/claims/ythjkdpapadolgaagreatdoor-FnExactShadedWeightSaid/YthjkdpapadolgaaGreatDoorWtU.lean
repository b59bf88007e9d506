/- ShadedWeight of both texts, for any pair in memory. -/
import Derived.Test.YthjkdpapadolgaaGreatDoorWtT
import Derived.Test.YthjkdpapadolgaaGreatDoorWtV
import Derived.Test.YthjkdpapadolgaaGreatDoorSymI
namespace Go.Proofs.YthjkdpapadolgaaGreatDoor
open Go.RowKit
set_option linter.unusedSimpArgs false
set_option linter.unusedVariables false
set_option maxRecDepth 20000

theorem OwnI.flat {w : World} {lo hi : Nat} {A : Option Addr} {n c : Nat} {xs : List Int} (h : OwnI w lo hi A n c xs) : ∀ ad, A = some ad → ad = ⟨ad.block, 0, none⟩ := by
  obtain ⟨A0, c0, e, hf⟩ := own_shape h.own
  injection e with e1 e2 e3
  subst e1
  exact hf
def swF (s : Int) (xs ys : List Int) (s' : Int) (xs' ys' : List Int) (K : Int) : Int := if pairOkF s xs ys s' xs' ys' = true then shWt true s.toNat xs ys xs' ys' K else 0
set_option maxHeartbeats 2000000 in
theorem spec_SW (s : Int) (A : Option Addr) (n c : Nat) (xs : List Int) (B : Option Addr) (m d : Nat) (ys : List Int) (s' : Int) (A' : Option Addr) (n' c' : Nat) (xs' : List Int) (B' : Option Addr) (m' d' : Nat) (ys' : List Int) (lo hi : Nat) (K : Int) (w : World) (h : Ints w lo hi A n c xs) (g : Ints w lo hi B m d ys) (h' : Ints w lo hi A' n' c' xs') (g' : Ints w lo hi B' m' d' ys') (fa : ∀ ad, A = some ad → ad = ⟨ad.block, 0, none⟩) (fb : ∀ ad, A' = some ad → ad = ⟨ad.block, 0, none⟩) (hh : hi ≤ w.heap.size) :
    Calls Tryz.prog 5 #[.agg #[.int .i64 s, .slice A n c, .slice B m d, .int .i64 s', .slice A' n' c', .slice B' m' d'], .int .i64 K] w fun r w' => r = .returned (.int .i64 (swF s xs ys s' xs' ys' K)) ∧ Below w.heap.size w w' := by
  by_cases hok : pairOkF s xs ys s' xs' ys' = true
  · rw [swF, if_pos hok]
    obtain ⟨t1, t2, rfl⟩ := pairOk_facts hok
    obtain ⟨k, rfl, hk, l1, l2⟩ := tabOk_facts t1
    obtain ⟨k', e, _, l3, l4⟩ := tabOk_facts t2
    obtain rfl : k = k' := by omega
    have e1 := h.len
    have e2 := g.len
    have e3 := h'.len
    have e4 := g'.len
    obtain rfl : n = k * k := by omega
    obtain rfl : n' = k * k := by omega
    obtain rfl : k = m := by omega
    obtain rfl : k = m' := by omega
    rw [Int.toNat_natCast]
    by_cases hK : 0 ≤ K ∧ K < 72
    · obtain ⟨cn, rfl⟩ : ∃ cn : Nat, K = (cn : Int) := ⟨K.toNat, by omega⟩
      exact spec_ShadedWeight ⟨k, A, c, xs, B, d, ys, A', c', xs', B', d', ys'⟩ lo hi cn (by omega) w ⟨h, g, h', g', fa, fb, hk⟩ hh hok
    · rw [shWt, if_neg (by simp; omega)]
      exact spec_ShadedWeight_not (k : Int) A (k * k) c xs B k d ys (k : Int) A' (k * k) c' xs' B' k d' ys' lo hi K w h g h' g' hh (Or.inr hK)
  · rw [swF, if_neg hok]
    exact spec_ShadedWeight_not s A n c xs B m d ys s' A' n' c' xs' B' m' d' ys' lo hi K w h g h' g' hh (Or.inl (by simpa using hok))
set_option maxHeartbeats 2000000 in
theorem impl_SW (s : Int) (A : Option Addr) (n c : Nat) (xs : List Int) (B : Option Addr) (m d : Nat) (ys : List Int) (s' : Int) (A' : Option Addr) (n' c' : Nat) (xs' : List Int) (B' : Option Addr) (m' d' : Nat) (ys' : List Int) (lo hi : Nat) (K : Int) (w : World) (h : Ints w lo hi A n c xs) (g : Ints w lo hi B m d ys) (h' : Ints w lo hi A' n' c' xs') (g' : Ints w lo hi B' m' d' ys') (fa : ∀ ad, A = some ad → ad = ⟨ad.block, 0, none⟩) (fb : ∀ ad, A' = some ad → ad = ⟨ad.block, 0, none⟩) (hh : hi ≤ w.heap.size) (b : Nat) (hT : TreeV b w) (hb : b ≤ w.heap.size) :
    Calls Tryz.prog 7 #[.agg #[.int .i64 s, .slice A n c, .slice B m d, .int .i64 s', .slice A' n' c', .slice B' m' d'], .int .i64 K] w fun r w' => r = .returned (.int .i64 (swF s xs ys s' xs' ys' K)) ∧ Below w.heap.size w w' := by
  by_cases hok : pairOkF s xs ys s' xs' ys' = true
  · rw [swF, if_pos hok]
    obtain ⟨t1, t2, rfl⟩ := pairOk_facts hok
    obtain ⟨k, rfl, hk, l1, l2⟩ := tabOk_facts t1
    obtain ⟨k', e, _, l3, l4⟩ := tabOk_facts t2
    obtain rfl : k = k' := by omega
    have e1 := h.len
    have e2 := g.len
    have e3 := h'.len
    have e4 := g'.len
    obtain rfl : n = k * k := by omega
    obtain rfl : n' = k * k := by omega
    obtain rfl : k = m := by omega
    obtain rfl : k = m' := by omega
    rw [Int.toNat_natCast]
    exact impl_ShadedWeight b ⟨k, A, c, xs, B, d, ys, A', c', xs', B', d', ys'⟩ lo hi K w hT hb ⟨h, g, h', g', fa, fb, hk⟩ hh hok
  · rw [swF, if_neg hok]
    exact impl_ShadedWeight_not s A n c xs B m d ys s' A' n' c' xs' B' m' d' ys' lo hi K w h g h' g' hh (by simpa using hok)
end Go.Proofs.YthjkdpapadolgaaGreatDoor
