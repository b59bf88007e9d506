/- Exponentials of words: the walks of both texts. -/
import Derived.Test.YtppekbokaknocaaDoorMulLaw
namespace Go.Proofs.YtppekbokaknocaaDoor
open Go.RowKit
set_option linter.unusedSimpArgs false
set_option linter.unusedVariables false
set_option maxRecDepth 20000

theorem Blk2.store2 {w : World} {g : Nat} {a b : Value} (h : Blk2 w g a b) (x y : Value) : Blk2 ((w.setCell ⟨g, 0, none⟩ x).setCell ⟨g, 1, none⟩ y) g x y := by
  obtain ⟨T, hh⟩ := h.h
  have h1 : (w.setCell ⟨g, 0, none⟩ x).heap[g]? = some (.cells #[x, b] T (0, 0)) := by simp [World.setCell, Array.getElem?_modify, hh]
  have h2 : ((w.setCell ⟨g, 0, none⟩ x).setCell ⟨g, 1, none⟩ y).heap[g]? = some (.cells #[x, y] T (0, 0)) := by
    generalize w.setCell ⟨g, 0, none⟩ x = v at h1 ⊢
    simp [World.setCell, Array.getElem?_modify, h1]
  exact ⟨T, h2⟩
theorem Blk2.far {w : World} {g b : Nat} {a a' : Value} (h : Blk2 w g a a') (hne : g ≠ b) (x y : Value) : Blk2 ((w.setCell ⟨b, 0, none⟩ x).setCell ⟨b, 1, none⟩ y) g a a' :=
  h.same ((Below.heap_setCell _ ⟨b, 1, none⟩ _ g hne).trans (Below.heap_setCell _ ⟨b, 0, none⟩ _ g hne))
theorem store2_size (w : World) (b : Nat) (x y : Value) : ((w.setCell ⟨b, 0, none⟩ x).setCell ⟨b, 1, none⟩ y).heap.size = w.heap.size := by simp [World.setCell]
theorem store2_same {w : World} {b lo hi : Nat} (x y : Value) (h : b < lo ∨ hi ≤ b) : Same lo hi w ((w.setCell ⟨b, 0, none⟩ x).setCell ⟨b, 1, none⟩ y) := ((Same.refl _ _ _).setCell h x).setCell h y
theorem store2_below {B : Nat} {a w : World} {b : Nat} (h : Below B a w) (hb : B ≤ b) (x y : Value) : Below B a ((w.setCell ⟨b, 0, none⟩ x).setCell ⟨b, 1, none⟩ y) := (h.setCell (p := ⟨b, 0, none⟩) hb x).setCell (p := ⟨b, 1, none⟩) hb y

def unitL (n : Nat) : List Int := (List.replicate n 0).set 0 1
theorem unit_eq {o : Int} (h0 : 0 ≤ o) (h5 : o ≤ 5) : unitF o = (o, unitL (cntN o)) := if_pos ⟨h0, h5⟩
theorem unitL_num (n : Nat) : ∀ x ∈ unitL n, 0 ≤ x ∧ x < 1000000271 := by
  intro x hx
  rcases List.mem_or_eq_of_mem_set hx with h | h
  · have := (List.mem_replicate.1 h).2
    omega
  · omega
theorem zip_num (xs ys : List Int) (k : Int) : ∀ x ∈ zipF xs ys k, 0 ≤ x ∧ x < 1000000271 := by
  intro x hx
  obtain ⟨j, hj⟩ := List.getElem?_of_mem hx
  unfold zipF at hj
  rw [List.getElem?_zipWith] at hj
  split at hj
  · injection hj with hj
    rw [← hj]
    exact plusF_bd _ _
  · cases hj
def expL (o : Int) (xs : List Int) : List Int := expGo (cntN o) xs o.toNat 1 (unitL (cntN o)) (unitL (cntN o))
def expF (o : Int) (xs : List Int) : (Int × List Int) × Bool := if wordsOkF o xs = true ∧ xs.getD 0 0 = 0 then ((o, expL o xs), true) else ((0, []), false)

end Go.Proofs.YtppekbokaknocaaDoor
