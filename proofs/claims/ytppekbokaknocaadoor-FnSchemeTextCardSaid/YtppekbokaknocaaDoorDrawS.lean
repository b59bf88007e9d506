/- What the statements draw: two schemes; three words. -/
import Derived.Test.YtppekbokaknocaaDoorDrawW
import Derived.Test.YtppekbokaknocaaDoorExp
namespace Go.Proofs.YtppekbokaknocaaDoor
open Go.RowKit
set_option linter.unusedSimpArgs false
set_option linter.unusedVariables false
set_option maxRecDepth 20000

set_option maxHeartbeats 1000000 in
theorem spec_DrawSchemes (hi : Nat) (A : Option Addr) (n c : Nat) (w : World) (h : Bytes w 0 hi A n c) (hh : hi ≤ w.heap.size) :
    Calls Tryd.prog 11 #[.slice A n c] w fun e w' => ∃ B m d ms C k f ks lo, e = .returned (.tuple #[.slice B m d, .slice C k f]) ∧ m ≤ 4 ∧ k ≤ 4 ∧ OwnM w' w.heap.size lo B m d ms ∧ OwnM w' lo w'.heap.size C k f ks ∧ lo ≤ w'.heap.size ∧
      (∀ m ∈ ms, (0 ≤ m.1 ∧ m.1 ≤ 1) ∧ 0 ≤ m.2 ∧ m.2 < 1000000271) ∧ (∀ m ∈ ks, (0 ≤ m.1 ∧ m.1 ≤ 1) ∧ 0 ≤ m.2 ∧ m.2 < 1000000271) ∧ Below w.heap.size w w' := by
  go_enter Tryd.func11, Tryd.ntmps11
  go_wp2_with fail
  refine (spec_l1New hi A n c w h hh).mono ?_
  rintro e w1 ⟨rfl, c1, b1⟩
  have z1 := b1.size
  have l1 := c1.lt
  go_wp2_with fail
  refine (spec_dMoves hi w.heap.size 4 w1 c1 (by omega)).mono ?_
  rintro e w2 ⟨B, m, d, ms, rfl, hm, o2, p2, c2, t2⟩
  have z2 := t2.size
  go_wp2_with fail
  refine (spec_dMoves hi w.heap.size 4 w2 c2 (by omega)).mono ?_
  rintro e w3 ⟨C, k, f, ks, rfl, hk, o3, p3, c3, t3⟩
  have z3 := t3.size
  have o2' := o2.same (t3.same (.inr (by omega)) (Nat.le_refl _))
  have b3 : Below w.heap.size w w3 := (b1.trans (t2.below (Nat.le_refl _) (by omega))).trans (t3.below (Nat.le_refl _) (by omega))
  go_wp2_with fail
  go_ret2
  exact ⟨B, m, d, ms, C, k, f, ks, w2.heap.size, rfl, hm, hk, ⟨owns_low o2'.own (by omega), o2'.lt, o2'.rng⟩, o3, z3, p2, p3, b3⟩

end Go.Proofs.YtppekbokaknocaaDoor
