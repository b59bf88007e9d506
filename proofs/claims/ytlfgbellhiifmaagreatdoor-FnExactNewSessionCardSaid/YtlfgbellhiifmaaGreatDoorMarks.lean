/- Marks on tableaus and pairs: the statements' helpers. -/
import Derived.Test.YtlfgbellhiifmaaGreatDoorPr
namespace Go.Proofs.YtlfgbellhiifmaaGreatDoor
open Go.RowKit
set_option linter.unusedSimpArgs false
set_option linter.unusedVariables false
set_option maxRecDepth 20000

theorem laws_markTableau (s : Int) (A : Option Addr) (n c : Nat) (xs : List Int) (B : Option Addr) (m d : Nat) (ys : List Int) (l1 h1 l2 h2 lo hi : Nat) (k0 : Int) (w : World) (h : OwnI w l1 h1 A n c xs) (g : OwnI w l2 h2 B m d ys) (hd : h1 ≤ l2 ∨ h2 ≤ l1) (hb : lo ≤ l1 ∧ h1 ≤ hi ∧ lo ≤ l2 ∧ h2 ≤ hi) (hh : hi ≤ w.heap.size) (hk0 : 0 ≤ k0) (hk1 : k0 + n + m ≤ 4611686018427387904) :
    Calls Tryz.prog 16 #[.agg #[.int .i64 s, .slice A n c, .slice B m d], .int .i64 k0] w fun e w' => e = .returned (.int .i64 (k0 + n + m)) ∧ OwnI w' l1 h1 A n c (marks k0 n) ∧ OwnI w' l2 h2 B m d (marks (k0 + n) m) ∧ Touch lo hi w w' ∧ (∀ a b, b ≤ w.heap.size → (b ≤ l1 ∨ h1 ≤ a) → (b ≤ l2 ∨ h2 ≤ a) → Same a b w w') := by
  obtain ⟨b1, b2, b3, b4⟩ := hb
  have a1 := below_alloc w (.cells #[.int .i64 s, .slice A n c, .slice B m d] 24)
  have j1 := BlkN.new w #[.int .i64 s, .slice A n c, .slice B m d] 24
  have z0 := a1.size
  have o0 := h.below a1 (by omega)
  have g1 := g.below a1 (by omega)
  go_enter Tryz.func16, Tryz.ntmps16
  go_wp2_with fail
  generalize World.alloc w (.cells #[.int .i64 s, .slice A n c, .slice B m d] 24) = W at a1 j1 z0 o0 g1 ⊢
  have q1 := j1.lt
  refine (laws_markIntS A n c xs l1 h1 k0 W o0 hk0 (by omega)).mono ?_
  rintro e w1 ⟨rfl, o1, t1, e1⟩
  have k1 := j1.touch t1 (by omega)
  have g2 := g1.same (t1.same (by omega) (by omega))
  have p2 := k1.c 2 rfl
  go_wp2_with fail
  clear p2
  refine (laws_markIntS B m d ys l2 h2 (k0 + n) w1 g2 (by omega) (by omega)).mono ?_
  rintro e w2 ⟨rfl, o2, t2, e2⟩
  have o1' := o1.same (t2.same (by omega) (by omega))
  have T := (Touch.of_below (lo := lo) (hi := hi) a1).trans ((t1.wide b1 b2).trans (t2.wide b3 b4))
  go_wp2_with fail
  go_ret
  refine ⟨rfl, o1', o2, T, fun a b hbs e1 e2 => ?_⟩
  exact (Same.of_below a1 hbs).trans ((t1.same (by omega) (by omega)).trans (t2.same (by omega) (by omega)))

theorem laws_heldTableau (s : Int) (A : Option Addr) (n c : Nat) (B : Option Addr) (m d : Nat) (lo hi : Nat) (k0 : Int) (w : World) (h : Ints w lo hi A n c (marks k0 n)) (g : Ints w lo hi B m d (marks (k0 + n) m)) (hh : hi ≤ w.heap.size) (hk0 : 0 ≤ k0) (hk1 : k0 + n + m ≤ 4611686018427387904) :
    Calls Tryz.prog 19 #[.agg #[.int .i64 s, .slice A n c, .slice B m d], .int .i64 k0] w fun e w' => e = .returned (.int .i64 (k0 + n + m)) ∧ Below w.heap.size w w' := by
  have a1 := below_alloc w (.cells #[.int .i64 s, .slice A n c, .slice B m d] 24)
  go_enter Tryz.func19, Tryz.ntmps19
  go_wp2_with fail
  refine (laws_heldIntS A n c lo hi k0 _ (h.below a1 hh) hk0 (by omega)).mono ?_
  rintro e w1 ⟨rfl, rfl⟩
  have hn1 : ¬ k0 + (n : Int) < 0 := by omega
  go_wp2_with fail
  refine (laws_heldIntS B m d lo hi (k0 + n) _ (g.below a1 hh) (by omega) (by omega)).mono ?_
  rintro e w1 ⟨rfl, rfl⟩
  have hn2 : ¬ k0 + (n : Int) + m < 0 := by omega
  go_wp2_with fail
  go_ret
  exact ⟨rfl, a1⟩
end Go.Proofs.YtlfgbellhiifmaaGreatDoor
