/- Marks on tableaus and pairs: the statements' helpers. -/
import Derived.Test.YtlmkjfgomlamhaaPr
namespace Go.Proofs.Ytlmkjfgomlamhaa
open Go.RowKit
set_option linter.unusedSimpArgs false
set_option linter.unusedVariables false
set_option maxRecDepth 20000

theorem laws_markTableau (s : Int) (A : Option Addr) (n c : Nat) (xs : List Int) (B : Option Addr) (m d : Nat) (ys : List Int) (l1 h1 l2 h2 lo hi : Nat) (k0 : Int) (w : World) (h : OwnI w l1 h1 A n c xs) (g : OwnI w l2 h2 B m d ys) (hd : h1 ≤ l2 ∨ h2 ≤ l1) (hb : lo ≤ l1 ∧ h1 ≤ hi ∧ lo ≤ l2 ∧ h2 ≤ hi) (hh : hi ≤ w.heap.size) (hk0 : 0 ≤ k0) (hk1 : k0 + n + m ≤ 4611686018427387904) :
    Calls Try.prog 42 #[.agg #[.int .i64 s, .slice A n c, .slice B m d], .int .i64 k0] w fun e w' => e = .returned (.int .i64 (k0 + n + m)) ∧ OwnI w' l1 h1 A n c (marks k0 n) ∧ OwnI w' l2 h2 B m d (marks (k0 + n) m) ∧ Touch lo hi w w' ∧ (∀ a b, b ≤ w.heap.size → (b ≤ l1 ∨ h1 ≤ a) → (b ≤ l2 ∨ h2 ≤ a) → Same a b w w') := by
  obtain ⟨b1, b2, b3, b4⟩ := hb
  have a1 := below_alloc w (.cells #[.int .i64 s, .slice A n c, .slice B m d] 35)
  have j1 := BlkN.new w #[.int .i64 s, .slice A n c, .slice B m d] 35
  have z0 := a1.size
  have o0 := h.below a1 (by omega)
  have g1 := g.below a1 (by omega)
  go_enter Try.func42, Try.ntmps42
  go_wp2_with fail
  generalize World.alloc w (.cells #[.int .i64 s, .slice A n c, .slice B m d] 35) = W at a1 j1 z0 o0 g1 ⊢
  have q1 := j1.lt
  refine (laws_markIntS A n c xs l1 h1 k0 W o0 hk0 (by omega)).mono ?_
  rintro e w1 ⟨rfl, o1, t1, e1⟩
  have k1 := j1.touch t1 (by omega)
  have g2 := g1.same (t1.same (by omega) (by omega))
  have p2 := k1.c 2 rfl
  go_wp2_with fail
  clear p2
  refine (laws_markIntS B m d ys l2 h2 (k0 + n) w1 g2 (by omega) (by omega)).mono ?_
  rintro e w2 ⟨rfl, o2, t2, e2⟩
  have o1' := o1.same (t2.same (by omega) (by omega))
  have T := (Touch.of_below (lo := lo) (hi := hi) a1).trans ((t1.wide b1 b2).trans (t2.wide b3 b4))
  go_wp2_with fail
  go_ret
  refine ⟨rfl, o1', o2, T, fun a b hbs e1 e2 => ?_⟩
  exact (Same.of_below a1 hbs).trans ((t1.same (by omega) (by omega)).trans (t2.same (by omega) (by omega)))

theorem laws_markPair (s : Int) (A : Option Addr) (n c : Nat) (xs : List Int) (B : Option Addr) (m d : Nat) (ys : List Int) (s' : Int) (A' : Option Addr) (n' c' : Nat) (xs' : List Int) (B' : Option Addr) (m' d' : Nat) (ys' : List Int) (l1 l2 l3 l4 lo hi : Nat) (k0 : Int) (w : World) (h : OwnI w l1 (l1 + 1) A n c xs) (g : OwnI w l2 (l2 + 1) B m d ys) (h' : OwnI w l3 (l3 + 1) A' n' c' xs') (g' : OwnI w l4 (l4 + 1) B' m' d' ys')
    (hd : l1 ≠ l2 ∧ l1 ≠ l3 ∧ l1 ≠ l4 ∧ l2 ≠ l3 ∧ l2 ≠ l4 ∧ l3 ≠ l4) (hb : lo ≤ l1 ∧ l1 < hi ∧ lo ≤ l2 ∧ l2 < hi ∧ lo ≤ l3 ∧ l3 < hi ∧ lo ≤ l4 ∧ l4 < hi) (hh : hi ≤ w.heap.size) (hk0 : 0 ≤ k0) (hk1 : k0 + n + m + n' + m' ≤ 4611686018427387904) :
    Calls Try.prog 17 #[.agg #[.int .i64 s, .slice A n c, .slice B m d, .int .i64 s', .slice A' n' c', .slice B' m' d'], .int .i64 k0] w fun e w' => e = .returned (.int .i64 (k0 + n + m + n' + m')) ∧ OwnI w' l1 (l1 + 1) A n c (marks k0 n) ∧ OwnI w' l2 (l2 + 1) B m d (marks (k0 + n) m) ∧ OwnI w' l3 (l3 + 1) A' n' c' (marks (k0 + n + m) n') ∧ OwnI w' l4 (l4 + 1) B' m' d' (marks (k0 + n + m + n') m') ∧ Touch lo hi w w' := by
  have a1 := below_alloc w (.cells #[.int .i64 s, .slice A n c, .slice B m d, .int .i64 s', .slice A' n' c', .slice B' m' d'] 37)
  have j1 := BlkN.new w #[.int .i64 s, .slice A n c, .slice B m d, .int .i64 s', .slice A' n' c', .slice B' m' d'] 37
  have z0 := a1.size
  have o1 := h.below a1 (by omega)
  have o2 := g.below a1 (by omega)
  have o3 := h'.below a1 (by omega)
  have o4 := g'.below a1 (by omega)
  go_enter Try.func17, Try.ntmps17
  go_wp2_with fail
  generalize World.alloc w (.cells #[.int .i64 s, .slice A n c, .slice B m d, .int .i64 s', .slice A' n' c', .slice B' m' d'] 37) = W at a1 j1 z0 o1 o2 o3 o4 ⊢
  have q1 := j1.lt
  refine (laws_markTableau s A n c xs B m d ys l1 (l1 + 1) l2 (l2 + 1) lo hi k0 W o1 o2 (by omega) (by omega) (by omega) hk0 (by omega)).mono ?_
  rintro e w1 ⟨rfl, p1, p2, t1, s1⟩
  have k1 := j1.touch t1 (by omega)
  have p3 := o3.same (s1 _ _ (by omega) (by omega) (by omega))
  have p4 := o4.same (s1 _ _ (by omega) (by omega) (by omega))
  have e3 := k1.c 3 rfl
  have e4 := k1.c 4 rfl
  have e5 := k1.c 5 rfl
  have z1 := t1.size
  go_wp2_with fail
  clear e3 e4 e5
  refine (laws_markTableau s' A' n' c' xs' B' m' d' ys' l3 (l3 + 1) l4 (l4 + 1) lo hi (k0 + n + m) w1 p3 p4 (by omega) (by omega) (by omega) (by omega) (by omega)).mono ?_
  rintro e w2 ⟨rfl, r3, r4, t2, s2⟩
  have r1 := p1.same (s2 _ _ (by omega) (by omega) (by omega))
  have r2 := p2.same (s2 _ _ (by omega) (by omega) (by omega))
  have T := (Touch.of_below (lo := lo) (hi := hi) a1).trans (t1.trans t2)
  go_wp2_with fail
  go_ret
  exact ⟨rfl, r1, r2, r3, r4, T⟩

end Go.Proofs.Ytlmkjfgomlamhaa
